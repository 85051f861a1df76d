/- What the laws of slope share. -/
import Derived.Test.YtegfmojjajoncaaLaw
import Derived.Test.YtegfmojjajoncaaSlopeR
import Derived.Laws.StructEq
namespace Go.Proofs.Ytegfmojjajoncaa
open Go.RowKit

/-- a block whose first three cells hold these values -/
def At3 (w : World) (b : Nat) (x y z : Value) : Prop := b < w.heap.size ∧ w.cell? ⟨b, 0, none⟩ = some x ∧ w.cell? ⟨b, 1, none⟩ = some y ∧ w.cell? ⟨b, 2, none⟩ = some z
theorem At3.ext {w w' : World} {b : Nat} {x y z : Value} (h : At3 w b x y z) (k : Ext w w') : At3 w' b x y z :=
  ⟨Nat.lt_of_lt_of_le h.1 (Below.size k), (Below.cell (p := ⟨b, 0, none⟩) k h.1).trans h.2.1, (Below.cell (p := ⟨b, 1, none⟩) k h.1).trans h.2.2.1, (Below.cell (p := ⟨b, 2, none⟩) k h.1).trans h.2.2.2⟩
theorem At3.new (w : World) (x y z : Value) (t : TypeId) : At3 (w.alloc (.cells #[x, y, z] t)) w.heap.size x y z := by
  refine ⟨by simp, ?_, ?_, ?_⟩ <;> simp [go_sem]
theorem Ints.lit (w : World) (L : List Int) (t : TypeId) : Ints (w.alloc (.cells (L.map (Value.int .i64)).toArray t)) (some ⟨w.heap.size, 0, none⟩) L.length L := by
  refine ⟨rfl, fun hn => ⟨w.heap.size, 0, rfl, by simp, fun j hj => ?_⟩⟩
  rw [Nat.zero_add]
  have h : (w.alloc (.cells (L.map (Value.int .i64)).toArray t)).heap[w.heap.size]? = some (.cells (L.map (Value.int .i64)).toArray t) := heap_alloc_new w _
  rw [cell_of_row _ w.heap.size j _ t (0, 0) h]
  simp [List.getD_eq_getElem?_getD, List.getElem?_eq_getElem hj]
theorem Ints.lit2 {w : World} {L : List Int} {t : TypeId} {g n : Nat} {cs : Array Value} (hg : g = w.heap.size) (hc : cs = (L.map (Value.int .i64)).toArray) (hn : n = L.length) : Ints (w.alloc (.cells cs t)) (some ⟨g, 0, none⟩) n L := by
  subst hg; subst hc; subst hn; exact Ints.lit w L t
theorem marks_c {rows changes e : Int} {L : List Int} (h : marksL rows changes = L) (k : spE rows changes = e) (w : World) :
    Calls Try.prog 10 #[.int .i64 rows, .int .i64 changes] w fun x w' => ∃ A cap, x = .returned (.tuple #[.slice A L.length cap, .int .i64 e]) ∧ Ints w' A L.length L ∧ Ext w w' := by
  have := marks_any rows changes w
  rwa [h, k] at this
theorem gaps_c {rows changes e : Int} {L : List Int} (h : gapsL rows changes = L) (k : spE rows changes = e) (w : World) :
    Calls Try.prog 12 #[.int .i64 rows, .int .i64 changes] w fun x w' => ∃ A cap, x = .returned (.tuple #[.slice A L.length cap, .int .i64 e]) ∧ Ints w' A L.length L ∧ Ext w w' := by
  have := gaps_any rows changes w
  rwa [h, k] at this
theorem line_c {a b rows e : Int} {L : List Int} (h : lineL a b rows = L) (k : lnE a b rows = e) (w : World) :
    Calls Try.prog 17 #[.int .i64 a, .int .i64 b, .int .i64 rows] w fun x w' => ∃ A cap, x = .returned (.tuple #[.slice A L.length cap, .int .i64 e]) ∧ Ints w' A L.length L ∧ Ext w w' := by
  have := line_any a b rows w
  rwa [h, k] at this
theorem even_c {a b rows e : Int} {L : List Int} (h : evenL a b rows = L) (k : lnE a b rows = e) (w : World) :
    Calls Try.prog 19 #[.int .i64 a, .int .i64 b, .int .i64 rows] w fun x w' => ∃ A cap, x = .returned (.tuple #[.slice A L.length cap, .int .i64 e]) ∧ Ints w' A L.length L ∧ Ext w w' := by
  have := even_any a b rows w
  rwa [h, k] at this
theorem steps_c {n c : Nat} {A : Option Addr} {l L : List Int} {e : Int} (h : stepsL l = L) (k : stE l = e) (w : World) (hl : Ints w A n l) (hm : n ≤ maxLen) :
    Calls Try.prog 21 #[.slice A n c] w fun x w' => ∃ A' cap, x = .returned (.tuple #[.slice A' L.length cap, .int .i64 e]) ∧ Ints w' A' L.length L ∧ Ext w w' := by
  have := steps_any n c A l w hl hm
  rwa [h, k] at this
theorem words_c {rows changes x y z e : Int} (h : words rows changes = (x, y, z)) (k : spE rows changes = e) (w : World) :
    Calls Try.prog 14 #[.int .i64 rows, .int .i64 changes] w fun r w' => r = .returned (.tuple #[.agg #[.int .i64 x, .int .i64 y, .int .i64 z], .int .i64 e]) ∧ Ext w w' := by
  have := words_any rows changes w
  rwa [h, k] at this
theorem alEv1 : lineL 40 50 4 = [40, 43, 45, 48, 50] ∧ lnE 40 50 4 = 0 := by decide +kernel
theorem alEv2 : evenL 40 50 4 = [40, 40, 45, 45, 50] ∧ lnE 40 50 4 = 0 := by decide +kernel
theorem alEv3 : stepsL [40, 43, 45, 48, 50] = [3, 2, 3, 2] ∧ stE [40, 43, 45, 48, 50] = 0 := by decide +kernel
theorem alEv4 : marksL 10 3 = [1, 5, 8] ∧ spE 10 3 = 0 := by decide +kernel
theorem alEv5 : gapsL 10 3 = [3, 3, 4] ∧ spE 10 3 = 0 := by decide +kernel
theorem alEv6 : words 10 3 = (3, 2, 1) ∧ spE 10 3 = 0 := by decide +kernel

set_option maxRecDepth 100000 in
set_option maxHeartbeats 1000000 in
theorem alive_any (w : World) : Calls Try.prog 24 #[] w fun e w' => e = .returned (.bool true) ∧ Ext w w' := by
  go_enter Try.func24, Try.ntmps24
  go_wp2_with (first | (go_at_call 17; ((with_reducible refine (line_c alEv1.1 alEv1.2 _).mono ?_); rintro e w1 ⟨A0, c0, rfl, hi0, hq0⟩)) | (go_at_call 19; ((with_reducible refine (even_c alEv2.1 alEv2.2 _).mono ?_); rintro e w1 ⟨A1, c1, rfl, hi1, hq1⟩)) | (go_at_call 21; ((with_reducible refine (steps_c (l := [40, 43, 45, 48, 50]) alEv3.1 alEv3.2 _ ?_ (by decide)).mono ?_); (focus (refine Ints.ext hi0 ?_; repeat (first | exact Ext.refl _ | assumption | refine Ext.alloc ?_ _ | refine Ext.drew ?_ | refine Ext.drewN ?_ _ | refine Ext.trans ?_ (by assumption))))); rintro e w1 ⟨A2, c2, rfl, hi2, hq2⟩) | (go_at_call 10; ((with_reducible refine (marks_c alEv4.1 alEv4.2 _).mono ?_); rintro e w1 ⟨A3, c3, rfl, hi3, hq3⟩)) | (go_at_call 12; ((with_reducible refine (gaps_c alEv5.1 alEv5.2 _).mono ?_); rintro e w1 ⟨A4, c4, rfl, hi4, hq4⟩)) | (go_at_call 14; ((with_reducible refine (words_c alEv6.1 alEv6.2 _).mono ?_); rintro e w1 ⟨rfl, hq5⟩; have hP := At3.new w1 (.int .i64 3) (.int .i64 2) (.int .i64 1) 29)))
  go_wp2_with (first | (go_at_call 16; ((with_reducible refine (same_any 5 5 _ _ A0 _ [40, 43, 45, 48, 50] [40, 43, 45, 48, 50] _ ?_ ?_ (by decide)).mono ?_); (focus (refine Ints.ext hi0 ?_; repeat (first | exact Ext.refl _ | assumption | refine Ext.alloc ?_ _ | refine Ext.drew ?_ | refine Ext.drewN ?_ _ | refine Ext.trans ?_ (by assumption)))); (focus (refine Ints.lit2 ?_ rfl rfl; simp))); rintro e w7 ⟨rfl, hq⟩; replace hP : At3 w7 _ _ _ _ := hP.ext (by repeat (first | exact Ext.refl _ | assumption | refine Ext.alloc ?_ _ | refine Ext.drew ?_ | refine Ext.drewN ?_ _ | refine Ext.trans ?_ (by assumption))); have hP1 := hP.2.1; have hP2 := hP.2.2.1; have hP3 := hP.2.2.2) | (go_at_call 16; ((with_reducible refine (same_any 5 5 _ _ A1 _ [40, 40, 45, 45, 50] [40, 40, 45, 45, 50] _ ?_ ?_ (by decide)).mono ?_); (focus (refine Ints.ext hi1 ?_; repeat (first | exact Ext.refl _ | assumption | refine Ext.alloc ?_ _ | refine Ext.drew ?_ | refine Ext.drewN ?_ _ | refine Ext.trans ?_ (by assumption)))); (focus (refine Ints.lit2 ?_ rfl rfl; simp))); rintro e w7 ⟨rfl, hq⟩; replace hP : At3 w7 _ _ _ _ := hP.ext (by repeat (first | exact Ext.refl _ | assumption | refine Ext.alloc ?_ _ | refine Ext.drew ?_ | refine Ext.drewN ?_ _ | refine Ext.trans ?_ (by assumption))); have hP1 := hP.2.1; have hP2 := hP.2.2.1; have hP3 := hP.2.2.2) | (go_at_call 16; ((with_reducible refine (same_any 4 4 _ _ A2 _ [3, 2, 3, 2] [3, 2, 3, 2] _ ?_ ?_ (by decide)).mono ?_); (focus (refine Ints.ext hi2 ?_; repeat (first | exact Ext.refl _ | assumption | refine Ext.alloc ?_ _ | refine Ext.drew ?_ | refine Ext.drewN ?_ _ | refine Ext.trans ?_ (by assumption)))); (focus (refine Ints.lit2 ?_ rfl rfl; simp))); rintro e w7 ⟨rfl, hq⟩; replace hP : At3 w7 _ _ _ _ := hP.ext (by repeat (first | exact Ext.refl _ | assumption | refine Ext.alloc ?_ _ | refine Ext.drew ?_ | refine Ext.drewN ?_ _ | refine Ext.trans ?_ (by assumption))); have hP1 := hP.2.1; have hP2 := hP.2.2.1; have hP3 := hP.2.2.2) | (go_at_call 16; ((with_reducible refine (same_any 3 3 _ _ A3 _ [1, 5, 8] [1, 5, 8] _ ?_ ?_ (by decide)).mono ?_); (focus (refine Ints.ext hi3 ?_; repeat (first | exact Ext.refl _ | assumption | refine Ext.alloc ?_ _ | refine Ext.drew ?_ | refine Ext.drewN ?_ _ | refine Ext.trans ?_ (by assumption)))); (focus (refine Ints.lit2 ?_ rfl rfl; simp))); rintro e w7 ⟨rfl, hq⟩; replace hP : At3 w7 _ _ _ _ := hP.ext (by repeat (first | exact Ext.refl _ | assumption | refine Ext.alloc ?_ _ | refine Ext.drew ?_ | refine Ext.drewN ?_ _ | refine Ext.trans ?_ (by assumption))); have hP1 := hP.2.1; have hP2 := hP.2.2.1; have hP3 := hP.2.2.2) | (go_at_call 16; ((with_reducible refine (same_any 3 3 _ _ A4 _ [3, 3, 4] [3, 3, 4] _ ?_ ?_ (by decide)).mono ?_); (focus (refine Ints.ext hi4 ?_; repeat (first | exact Ext.refl _ | assumption | refine Ext.alloc ?_ _ | refine Ext.drew ?_ | refine Ext.drewN ?_ _ | refine Ext.trans ?_ (by assumption)))); (focus (refine Ints.lit2 ?_ rfl rfl; simp))); rintro e w7 ⟨rfl, hq⟩; replace hP : At3 w7 _ _ _ _ := hP.ext (by repeat (first | exact Ext.refl _ | assumption | refine Ext.alloc ?_ _ | refine Ext.drew ?_ | refine Ext.drewN ?_ _ | refine Ext.trans ?_ (by assumption))); have hP1 := hP.2.1; have hP2 := hP.2.2.1; have hP3 := hP.2.2.2))
  go_ret
  exact ⟨rfl, by repeat (first | exact Ext.refl _ | assumption | refine Ext.alloc ?_ _ | refine Ext.drew ?_ | refine Ext.drewN ?_ _ | refine Ext.trans ?_ (by assumption))⟩
end Go.Proofs.Ytegfmojjajoncaa
