/- Line and Even where the line is valid, for the laws. -/
import Derived.Test.YtegfmojjajoncaaSlopeD
import Derived.Test.YtegfmojjajoncaaSlopeQ
import Derived.Deep.QuietTactic
import Derived.BigQuiet
namespace Go.Proofs.Ytegfmojjajoncaa
open Go.RowKit

theorem line_ok {a b : Int} {r : Nat} (h : lnOk a b r = true) (w : World) :
    Calls Try.prog 17 #[.int .i64 a, .int .i64 b, .int .i64 r] w fun x w' => ∃ A cap, x = .returned (.tuple #[.slice A (r + 1) cap, .int .i64 0]) ∧ Ints w' A (r + 1) (lnF a b r) ∧ Ext w w' := by
  have := line_any a b r w
  rwa [show lineL a b r = lnF a b r by simp [lineL, lnF, h], show lnE a b r = 0 by simp [lnE, h], show (lnF a b r).length = r + 1 by simp [lnF]] at this
theorem even_ok {a b : Int} {r : Nat} (h : lnOk a b r = true) (w : World) :
    Calls Try.prog 19 #[.int .i64 a, .int .i64 b, .int .i64 r] w fun x w' => ∃ A cap, x = .returned (.tuple #[.slice A (r + 1) cap, .int .i64 0]) ∧ Ints w' A (r + 1) (evF a b r) ∧ Ext w w' := by
  have := even_any a b r w
  rwa [show evenL a b r = evF a b r by simp [evenL, evF, h], show lnE a b r = 0 by simp [lnE, h], show (evF a b r).length = r + 1 by simp [evF]] at this
theorem steps_ok {a b : Int} {r : Nat} (h : lnOk a b r = true) {A : Option Addr} {c : Nat} (w : World) (hl : Ints w A (r + 1) (lnF a b r)) :
    Calls Try.prog 21 #[.slice A (r + 1) c] w fun x w' => ∃ A' cap, x = .returned (.tuple #[.slice A' r cap, .int .i64 0]) ∧ Ints w' A' r (stF a b r) ∧ Ext w w' := by
  have hr := lnOk_e h
  obtain ⟨h1, h2⟩ := stF_ok h
  have := steps_c h2 h1 (c := c) w hl (by unfold maxLen; omega)
  rwa [show (stF a b r).length = r by simp [stF]] at this
theorem line_bad {a b rows : Int} (h : lnOk a b rows = false) (w : World) :
    Calls Try.prog 17 #[.int .i64 a, .int .i64 b, .int .i64 rows] w fun x w' => ∃ A cap, x = .returned (.tuple #[.slice A 0 cap, .int .i64 2]) ∧ Ints w' A 0 [] ∧ Ext w w' := by
  have := line_any a b rows w
  rwa [show lineL a b rows = [] by simp [lineL, h], show lnE a b rows = 2 by simp [lnE, h]] at this
theorem even_bad {a b rows : Int} (h : lnOk a b rows = false) (w : World) :
    Calls Try.prog 19 #[.int .i64 a, .int .i64 b, .int .i64 rows] w fun x w' => ∃ A cap, x = .returned (.tuple #[.slice A 0 cap, .int .i64 2]) ∧ Ints w' A 0 [] ∧ Ext w w' := by
  have := even_any a b rows w
  rwa [show evenL a b rows = [] by simp [evenL, h], show lnE a b rows = 2 by simp [lnE, h]] at this
end Go.Proofs.Ytegfmojjajoncaa
