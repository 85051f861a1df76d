/- The contracts of the functions of slope. -/
import Derived.Test.YtegfmojjajoncaaSlopeA
import Derived.Test.YtegfmojjajoncaaSlopeP
import Derived.Deep.QuietTactic
import Derived.BigQuiet
namespace Go.Proofs.Ytegfmojjajoncaa
open Go.RowKit

theorem within_any (n lo hi : Int) (w : World) :
    Calls Try.prog 36 #[.int .i64 n, .int .i64 lo, .int .i64 hi] w fun e w' => e = .returned (.bool (inR n lo hi)) ∧ w = w' := by
  by_cases h : lo ≤ n
  · go_enter Try.func36, Try.ntmps36
    go_wp2
    go_ret
    exact ⟨by simp [inR, h], rfl⟩
  · go_enter Try.func36, Try.ntmps36
    go_wp2
    go_ret
    exact ⟨by rw [inR_f (by omega)]; rfl, rfl⟩

theorem spread_any (rows changes : Int) (w : World) :
    Calls Try.prog 25 #[.int .i64 rows, .int .i64 changes] w fun e w' => e = .returned (.int .i64 (spE rows changes)) ∧ w = w' := by
  cases h1 : inR rows 1 1000
  · go_enter Try.func25, Try.ntmps25
    go_wp2_with (go_at_call 36; refine (within_any _ _ _ _).mono ?_; rintro e w2 ⟨rfl, rfl⟩)
    go_ret
    exact ⟨by simp [spE, spOk, h1], rfl⟩
  · cases h2 : inR changes 1 rows
    · go_enter Try.func25, Try.ntmps25
      go_wp2_with (go_at_call 36; refine (within_any _ _ _ _).mono ?_; rintro e w2 ⟨rfl, rfl⟩)
      go_ret
      exact ⟨by simp [spE, spOk, h1, h2], rfl⟩
    · go_enter Try.func25, Try.ntmps25
      go_wp2_with (go_at_call 36; refine (within_any _ _ _ _).mono ?_; rintro e w2 ⟨rfl, rfl⟩)
      go_ret
      exact ⟨by simp [spE, spOk, h1, h2], rfl⟩

theorem check_any (a b rows : Int) (w : World) :
    Calls Try.prog 30 #[.int .i64 a, .int .i64 b, .int .i64 rows] w fun e w' => e = .returned (.int .i64 (lnE a b rows)) ∧ w = w' := by
  cases h1 : inR a (-1000) 1000
  · go_enter Try.func30, Try.ntmps30
    go_wp2_with (go_at_call 36; refine (within_any _ _ _ _).mono ?_; rintro e w2 ⟨rfl, rfl⟩)
    go_ret
    exact ⟨by simp [lnE, lnOk, h1], rfl⟩
  · cases h2 : inR b (-1000) 1000
    · go_enter Try.func30, Try.ntmps30
      go_wp2_with (go_at_call 36; refine (within_any _ _ _ _).mono ?_; rintro e w2 ⟨rfl, rfl⟩)
      go_ret
      exact ⟨by simp [lnE, lnOk, h1, h2], rfl⟩
    · cases h3 : inR rows 1 1000
      · go_enter Try.func30, Try.ntmps30
        go_wp2_with (go_at_call 36; refine (within_any _ _ _ _).mono ?_; rintro e w2 ⟨rfl, rfl⟩)
        go_ret
        exact ⟨by simp [lnE, lnOk, h1, h2, h3], rfl⟩
      · go_enter Try.func30, Try.ntmps30
        go_wp2_with (go_at_call 36; refine (within_any _ _ _ _).mono ?_; rintro e w2 ⟨rfl, rfl⟩)
        go_ret
        exact ⟨by simp [lnE, lnOk, h1, h2, h3], rfl⟩

theorem at_any (a b rows i : Int) (w : World) (a0 : -1000 ≤ a) (a1 : a ≤ 1000) (b0 : -1000 ≤ b) (b1 : b ≤ 1000) (r0 : 1 ≤ rows) (r1 : rows ≤ 1000) (i0 : 0 ≤ i) (i1 : i ≤ rows) :
    Calls Try.prog 32 #[.int .i64 a, .int .i64 b, .int .i64 rows, .int .i64 i] w fun e w' => e = .returned (.int .i64 (atV a b rows i)) ∧ w = w' := by
  obtain ⟨p0, p1⟩ := prod_bd (show 0 ≤ a + 1000 by omega) (show a + 1000 ≤ 2000 by omega) (show 0 ≤ rows - i by omega) (show rows - i ≤ 1000 by omega)
  obtain ⟨q0, q1⟩ := prod_bd (show 0 ≤ b + 1000 by omega) (show b + 1000 ≤ 2000 by omega) i0 (show i ≤ 1000 by omega)
  have d0 : 0 ≤ (2 * ((a + 1000) * (rows - i) + (b + 1000) * i) + rows) / (2 * rows) := Int.ediv_nonneg (by omega) (by omega)
  have d1 : (2 * ((a + 1000) * (rows - i) + (b + 1000) * i) + rows) / (2 * rows) ≤ 2 * ((a + 1000) * (rows - i) + (b + 1000) * i) + rows := Int.ediv_le_self _ (by omega)
  go_enter Try.func32, Try.ntmps32
  go_wp2
  go_ret
  exact ⟨rfl, rfl⟩

theorem marks1_any (i : Nat) (rows changes : Int) (a1 a2 : Addr) (w : World) (h1 : w.cell? a1 = some (.int .i64 rows)) (h2 : w.cell? a2 = some (.int .i64 changes))
    (i1 : i ≤ 1000) (r0 : 1 ≤ rows) (r1 : rows ≤ 1000) (c0 : 1 ≤ changes) (c1 : changes ≤ 1000) :
    Calls Try.prog 27 #[.int .i64 i, .pointer (some a1), .pointer (some a2)] w fun e w' => e = .returned (.int .i64 (markV rows changes i)) ∧ w = w' := by
  obtain ⟨p0, p1⟩ := prod_bd (show 0 ≤ 2 * (i : Int) + 1 by omega) (show 2 * (i : Int) + 1 ≤ 2001 by omega) (show 0 ≤ rows by omega) r1
  go_enter Try.func27, Try.ntmps27
  go_wp2
  go_ret
  exact ⟨rfl, rfl⟩

theorem gaps1_any (i : Nat) (rows changes : Int) (a0 a1 a2 : Addr) (w : World) (h0 : w.cell? a0 = some (.int .i64 (i * rows / changes))) (hf : w.frozen? a0 = false) (h1 : w.cell? a1 = some (.int .i64 rows)) (h2 : w.cell? a2 = some (.int .i64 changes))
    (_n1 : a0 ≠ a1) (_n2 : a0 ≠ a2) (i1 : i ≤ 1000) (r0 : 1 ≤ rows) (r1 : rows ≤ 1000) (c0 : 1 ≤ changes) (c1 : changes ≤ 1000) :
    Calls Try.prog 29 #[.int .i64 i, .pointer (some a0), .pointer (some a1), .pointer (some a2)] w
      fun e w' => e = .returned (.int .i64 (gapV rows changes i)) ∧ w.setCell a0 (.int .i64 ((i + 1) * rows / changes)) = w' := by
  obtain ⟨p0, p1⟩ := prod_bd (show 0 ≤ (i : Int) + 1 by omega) (show (i : Int) + 1 ≤ 1001 by omega) (show 0 ≤ rows by omega) r1
  obtain ⟨q0, q1⟩ := prod_bd (show 0 ≤ (i : Int) by omega) (show (i : Int) ≤ 1000 by omega) (show 0 ≤ rows by omega) r1
  have d0 : 0 ≤ ((i : Int) + 1) * rows / changes := Int.ediv_nonneg (by omega) (by omega)
  have d1 : ((i : Int) + 1) * rows / changes ≤ ((i : Int) + 1) * rows := Int.ediv_le_self _ (by omega)
  have d2 : 0 ≤ (i : Int) * rows / changes := Int.ediv_nonneg (by omega) (by omega)
  have d3 : (i : Int) * rows / changes ≤ (i : Int) * rows := Int.ediv_le_self _ (by omega)
  go_enter Try.func29, Try.ntmps29
  go_wp2
  go_ret
  exact ⟨rfl, rfl⟩

theorem line1_any (i : Nat) (a b rows : Int) (a1 a2 a3 : Addr) (w : World) (h1 : w.cell? a1 = some (.int .i64 a)) (h2 : w.cell? a2 = some (.int .i64 b)) (h3 : w.cell? a3 = some (.int .i64 rows))
    (a0 : -1000 ≤ a) (a1' : a ≤ 1000) (b0 : -1000 ≤ b) (b1 : b ≤ 1000) (r0 : 1 ≤ rows) (r1 : rows ≤ 1000) (i1 : (i : Int) ≤ rows) :
    Calls Try.prog 31 #[.int .i64 i, .pointer (some a1), .pointer (some a2), .pointer (some a3)] w fun e w' => e = .returned (.int .i64 (atV a b rows i)) ∧ w = w' := by
  go_enter Try.func31, Try.ntmps31
  go_wp2_with (go_at_call 32; refine (at_any _ _ _ _ _ a0 a1' b0 b1 r0 r1 (by omega) i1).mono ?_; rintro e w2 ⟨rfl, rfl⟩)
  go_ret
  exact ⟨rfl, rfl⟩

theorem even1_any (i : Nat) (a b rows : Int) (a1 a2 a3 : Addr) (w : World) (h1 : w.cell? a1 = some (.int .i64 rows)) (h2 : w.cell? a2 = some (.int .i64 a)) (h3 : w.cell? a3 = some (.int .i64 b))
    (a0 : -1000 ≤ a) (a1' : a ≤ 1000) (b0 : -1000 ≤ b) (b1 : b ≤ 1000) (r0 : 1 ≤ rows) (r1 : rows ≤ 1000) (i1 : (i : Int) ≤ rows) :
    Calls Try.prog 35 #[.int .i64 i, .pointer (some a1), .pointer (some a2), .pointer (some a3)] w fun e w' => e = .returned (.int .i64 (evenV a b rows i)) ∧ w = w' := by
  by_cases h : (i : Int) < rows
  · have hE := Lib.hid (show evenV a b rows i = atV a b rows ((i : Int) - (i : Int) % 2) by rw [evenV, if_pos h])
    go_enter Try.func35, Try.ntmps35
    go_wp2_with (go_at_call 32; refine (at_any _ _ _ _ _ a0 a1' b0 b1 r0 r1 (by omega) (by omega)).mono ?_; rintro e w2 ⟨rfl, rfl⟩)
    go_ret
    exact ⟨by rw [hE.out]; rfl, rfl⟩
  · have hE := Lib.hid (show evenV a b rows i = atV a b rows i by rw [evenV, if_neg h])
    go_enter Try.func35, Try.ntmps35
    go_wp2_with (go_at_call 32; refine (at_any _ _ _ _ _ a0 a1' b0 b1 r0 r1 (by omega) (by omega)).mono ?_; rintro e w2 ⟨rfl, rfl⟩)
    go_ret
    exact ⟨by rw [hE.out]; rfl, rfl⟩
end Go.Proofs.Ytegfmojjajoncaa
