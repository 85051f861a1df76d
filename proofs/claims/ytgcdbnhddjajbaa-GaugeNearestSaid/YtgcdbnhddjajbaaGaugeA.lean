/- The contracts of the functions of gauge. -/
import Derived.Test.YtgcdbnhddjajbaaRows
import Derived.Test.YtgcdbnhddjajbaaBase
import Derived.Test.YtgcdbnhddjajbaaGaugeP
namespace Go.Proofs.Ytgcdbnhddjajbaa
open Go.RowKit

theorem within_any (n lo hi : Int) (w : World) :
    Calls Try.prog 29 #[.int .i64 n, .int .i64 lo, .int .i64 hi] w fun e w' => e = .returned (.bool (inR n lo hi)) ∧ w = w' := by
  by_cases h : lo ≤ n
  · go_enter Try.func29, Try.ntmps29
    go_wp2
    go_ret
    exact ⟨by simp [inR, h], rfl⟩
  · go_enter Try.func29, Try.ntmps29
    go_wp2
    go_ret
    exact ⟨by rw [inR_f (by omega)]; rfl, rfl⟩

theorem of_any (num den n : Int) (w : World) (h0 : 0 ≤ n) (h1 : n ≤ 1000000) (h2 : 0 ≤ num) (h3 : num ≤ 100000000) (h4 : 1 ≤ den) (h5 : den ≤ 100000000) :
    Calls Try.prog 30 #[.agg #[.int .i64 num, .int .i64 den], .int .i64 n] w fun e w' => e = .returned (.int .i64 (near (n * num) den)) ∧ Ext w w' := by
  have hp : 0 ≤ 2 * n * num ∧ 2 * n * num ≤ 2000000 * 100000000 := prod_bd (by omega) (by omega) h2 h3
  obtain ⟨hp0, hp1⟩ := hp
  go_enter Try.func30, Try.ntmps30
  go_wp2
  go_ret
  exact ⟨by simp [near, Int.mul_assoc], (Ext.refl _).alloc _⟩

theorem gcheck_any (a b c d : Int) (w : World) :
    Calls Try.prog 18 #[.agg #[.int .i64 a, .int .i64 b, .int .i64 c, .int .i64 d]] w fun e w' => e = .returned (.int .i64 (gerr a b c d)) ∧ Ext w w' := by
  have i0 : ∀ w, (Instr.index 48 (.agg #[.int .i64 a, .int .i64 b, .int .i64 c, .int .i64 d]) (.int .i64 0)).run Try.prog w = .ok (.int .i64 a) w := fun _ => by kernel_rfl
  have i1 : ∀ w, (Instr.index 48 (.agg #[.int .i64 a, .int .i64 b, .int .i64 c, .int .i64 d]) (.int .i64 1)).run Try.prog w = .ok (.int .i64 b) w := fun _ => by kernel_rfl
  have i2 : ∀ w, (Instr.index 48 (.agg #[.int .i64 a, .int .i64 b, .int .i64 c, .int .i64 d]) (.int .i64 2)).run Try.prog w = .ok (.int .i64 c) w := fun _ => by kernel_rfl
  have i3 : ∀ w, (Instr.index 48 (.agg #[.int .i64 a, .int .i64 b, .int .i64 c, .int .i64 d]) (.int .i64 3)).run Try.prog w = .ok (.int .i64 d) w := fun _ => by kernel_rfl
  cases ha : inR a 1 10000
  · go_enter Try.func18, Try.ntmps18
    go_wp2_with fail
    refine wp_loop_rounds 1 ?_
    rw [rounds_succ]
    go_wp2_with (go_at_call 29; refine (within_any _ _ _ _).mono ?_; rintro e w1 ⟨rfl, rfl⟩)
    go_ret
    exact ⟨by simp [gerr, gok, ha], (Ext.refl _).alloc _⟩
  cases hb : inR b 1 10000
  · go_enter Try.func18, Try.ntmps18
    go_wp2_with fail
    refine wp_loop_rounds 2 ?_
    rw [rounds_succ]
    go_wp2_with (go_at_call 29; refine (within_any _ _ _ _).mono ?_; rintro e w1 ⟨rfl, rfl⟩)
    rw [rounds_succ]
    go_wp2_with (go_at_call 29; refine (within_any _ _ _ _).mono ?_; rintro e w1 ⟨rfl, rfl⟩)
    go_ret
    exact ⟨by simp [gerr, gok, ha, hb], (Ext.refl _).alloc _⟩
  cases hc : inR c 1 10000
  · go_enter Try.func18, Try.ntmps18
    go_wp2_with fail
    refine wp_loop_rounds 3 ?_
    rw [rounds_succ]
    go_wp2_with (go_at_call 29; refine (within_any _ _ _ _).mono ?_; rintro e w1 ⟨rfl, rfl⟩)
    rw [rounds_succ]
    go_wp2_with (go_at_call 29; refine (within_any _ _ _ _).mono ?_; rintro e w1 ⟨rfl, rfl⟩)
    rw [rounds_succ]
    go_wp2_with (go_at_call 29; refine (within_any _ _ _ _).mono ?_; rintro e w1 ⟨rfl, rfl⟩)
    go_ret
    exact ⟨by simp [gerr, gok, ha, hb, hc], (Ext.refl _).alloc _⟩
  cases hd : inR d 1 10000
  · go_enter Try.func18, Try.ntmps18
    go_wp2_with fail
    refine wp_loop_rounds 4 ?_
    rw [rounds_succ]
    go_wp2_with (go_at_call 29; refine (within_any _ _ _ _).mono ?_; rintro e w1 ⟨rfl, rfl⟩)
    rw [rounds_succ]
    go_wp2_with (go_at_call 29; refine (within_any _ _ _ _).mono ?_; rintro e w1 ⟨rfl, rfl⟩)
    rw [rounds_succ]
    go_wp2_with (go_at_call 29; refine (within_any _ _ _ _).mono ?_; rintro e w1 ⟨rfl, rfl⟩)
    rw [rounds_succ]
    go_wp2_with (go_at_call 29; refine (within_any _ _ _ _).mono ?_; rintro e w1 ⟨rfl, rfl⟩)
    go_ret
    exact ⟨by simp [gerr, gok, ha, hb, hc, hd], (Ext.refl _).alloc _⟩
  · go_enter Try.func18, Try.ntmps18
    go_wp2_with fail
    refine wp_loop_rounds 5 ?_
    rw [rounds_succ]
    go_wp2_with (go_at_call 29; refine (within_any _ _ _ _).mono ?_; rintro e w1 ⟨rfl, rfl⟩)
    rw [rounds_succ]
    go_wp2_with (go_at_call 29; refine (within_any _ _ _ _).mono ?_; rintro e w1 ⟨rfl, rfl⟩)
    rw [rounds_succ]
    go_wp2_with (go_at_call 29; refine (within_any _ _ _ _).mono ?_; rintro e w1 ⟨rfl, rfl⟩)
    rw [rounds_succ]
    go_wp2_with (go_at_call 29; refine (within_any _ _ _ _).mono ?_; rintro e w1 ⟨rfl, rfl⟩)
    rw [rounds_succ]
    go_wp2_with (go_at_call 29; refine (within_any _ _ _ _).mono ?_; rintro e w1 ⟨rfl, rfl⟩)
    go_ret
    exact ⟨by simp [gerr, gok, ha, hb, hc, hd], (Ext.refl _).alloc _⟩

theorem scale_any (a b c d num den n most result : Int) (w : World) (hm : most ≤ 1000000) (hq : gok a b c d = true → 0 ≤ num ∧ num ≤ 100000000 ∧ 1 ≤ den ∧ den ≤ 100000000) :
    Calls Try.prog 27 #[.agg #[.int .i64 a, .int .i64 b, .int .i64 c, .int .i64 d], .agg #[.int .i64 num, .int .i64 den], .int .i64 n, .int .i64 most, .int .i64 result] w
      fun e w' => e = .returned (.tuple #[.int .i64 (scaleG (gok a b c d) n most (near (n * num) den) result).1, .int .i64 (scaleG (gok a b c d) n most (near (n * num) den) result).2]) ∧ Ext w w' := by
  cases hg : gok a b c d
  · have he : gerr a b c d = 8 := by simp [gerr, hg]
    clear hq
    go_enter Try.func27, Try.ntmps27
    go_wp2_with (go_at_call 18; refine (gcheck_any _ _ _ _ _).mono ?_; rintro e w1 ⟨rfl, hb1⟩; obtain ⟨hc1, hf1, hz1⟩ := hb1.facts)
    go_ret2
    exact ⟨by rw [scaleG_bad]; rfl, by repeat (first | exact Ext.refl _ | refine Ext.alloc ?_ _ | refine Ext.trans ?_ (by assumption))⟩
  · have he : gerr a b c d = 0 := by simp [gerr, hg]
    obtain ⟨q0, q1, q2, q3⟩ := hq hg
    clear hq
    cases hn : inR n 0 most
    · go_enter Try.func27, Try.ntmps27
      go_wp2_with (first | (go_at_call 18; refine (gcheck_any _ _ _ _ _).mono ?_; rintro e w1 ⟨rfl, hb1⟩; obtain ⟨hc1, hf1, hz1⟩ := hb1.facts) | (go_at_call 29; refine (within_any _ _ _ _).mono ?_; rintro e w1 ⟨rfl, rfl⟩))
      go_ret2
      exact ⟨by rw [scaleG_arg hn]; rfl, by repeat (first | exact Ext.refl _ | refine Ext.alloc ?_ _ | refine Ext.trans ?_ (by assumption))⟩
    · obtain ⟨n0, n1⟩ := inR_e hn
      by_cases hr : result < near (n * num) den
      · go_enter Try.func27, Try.ntmps27
        go_wp2_with (first | (go_at_call 18; refine (gcheck_any _ _ _ _ _).mono ?_; rintro e w1 ⟨rfl, hb1⟩; obtain ⟨hc1, hf1, hz1⟩ := hb1.facts) | (go_at_call 29; refine (within_any _ _ _ _).mono ?_; rintro e w1 ⟨rfl, rfl⟩) | (go_at_call 30; refine (of_any _ _ _ _ n0 (by omega) q0 q1 q2 q3).mono ?_; rintro e w2 ⟨rfl, hb2⟩))
        go_ret2
        exact ⟨by rw [scaleG_range hn (by omega)]; rfl, by repeat (first | exact Ext.refl _ | refine Ext.alloc ?_ _ | refine Ext.trans ?_ (by assumption))⟩
      · go_enter Try.func27, Try.ntmps27
        go_wp2_with (first | (go_at_call 18; refine (gcheck_any _ _ _ _ _).mono ?_; rintro e w1 ⟨rfl, hb1⟩; obtain ⟨hc1, hf1, hz1⟩ := hb1.facts) | (go_at_call 29; refine (within_any _ _ _ _).mono ?_; rintro e w1 ⟨rfl, rfl⟩) | (go_at_call 30; refine (of_any _ _ _ _ n0 (by omega) q0 q1 q2 q3).mono ?_; rintro e w2 ⟨rfl, hb2⟩))
        go_ret2
        exact ⟨by rw [scaleG_ok hn (by omega)]; rfl, by repeat (first | exact Ext.refl _ | refine Ext.alloc ?_ _ | refine Ext.trans ?_ (by assumption))⟩

theorem stitches_any (a b c d n : Int) (w : World) :
    Calls Try.prog 10 #[.agg #[.int .i64 a, .int .i64 b, .int .i64 c, .int .i64 d], .int .i64 n] w
      fun e w' => e = .returned (.tuple #[.int .i64 (scaleG (gok a b c d) n 1000000 (near (n * a) b) 1000000).1, .int .i64 (scaleG (gok a b c d) n 1000000 (near (n * a) b) 1000000).2]) ∧ Ext w w' := by
  have hq : gok a b c d = true → 0 ≤ a ∧ a ≤ 100000000 ∧ 1 ≤ b ∧ b ≤ 100000000 := fun h => by have := gok_e h; omega
  have HQ := Lib.hid hq
  clear hq
  go_enter Try.func10, Try.ntmps10
  go_wp2_with (go_at_call 27; refine (scale_any _ _ _ _ _ _ _ _ _ _ (by omega) HQ.out).mono ?_; rintro e w1 ⟨rfl, hb1⟩; obtain ⟨hc1, hf1, hz1⟩ := hb1.facts)
  go_ret2
  exact ⟨rfl, by repeat (first | exact Ext.refl _ | refine Ext.alloc ?_ _ | refine Ext.trans ?_ (by assumption))⟩

theorem rows_any (a b c d n : Int) (w : World) :
    Calls Try.prog 12 #[.agg #[.int .i64 a, .int .i64 b, .int .i64 c, .int .i64 d], .int .i64 n] w
      fun e w' => e = .returned (.tuple #[.int .i64 (scaleG (gok a b c d) n 1000000 (near (n * c) d) 1000000).1, .int .i64 (scaleG (gok a b c d) n 1000000 (near (n * c) d) 1000000).2]) ∧ Ext w w' := by
  have hq : gok a b c d = true → 0 ≤ c ∧ c ≤ 100000000 ∧ 1 ≤ d ∧ d ≤ 100000000 := fun h => by have := gok_e h; omega
  have HQ := Lib.hid hq
  clear hq
  go_enter Try.func12, Try.ntmps12
  go_wp2_with (go_at_call 27; refine (scale_any _ _ _ _ _ _ _ _ _ _ (by omega) HQ.out).mono ?_; rintro e w1 ⟨rfl, hb1⟩; obtain ⟨hc1, hf1, hz1⟩ := hb1.facts)
  go_ret2
  exact ⟨rfl, by repeat (first | exact Ext.refl _ | refine Ext.alloc ?_ _ | refine Ext.trans ?_ (by assumption))⟩

theorem width_any (a b c d n : Int) (w : World) :
    Calls Try.prog 14 #[.agg #[.int .i64 a, .int .i64 b, .int .i64 c, .int .i64 d], .int .i64 n] w
      fun e w' => e = .returned (.tuple #[.int .i64 (scaleG (gok a b c d) n 1000000 (near (n * b) a) 1000000).1, .int .i64 (scaleG (gok a b c d) n 1000000 (near (n * b) a) 1000000).2]) ∧ Ext w w' := by
  have hq : gok a b c d = true → 0 ≤ b ∧ b ≤ 100000000 ∧ 1 ≤ a ∧ a ≤ 100000000 := fun h => by have := gok_e h; omega
  have HQ := Lib.hid hq
  clear hq
  go_enter Try.func14, Try.ntmps14
  go_wp2_with (go_at_call 27; refine (scale_any _ _ _ _ _ _ _ _ _ _ (by omega) HQ.out).mono ?_; rintro e w1 ⟨rfl, hb1⟩; obtain ⟨hc1, hf1, hz1⟩ := hb1.facts)
  go_ret2
  exact ⟨rfl, by repeat (first | exact Ext.refl _ | refine Ext.alloc ?_ _ | refine Ext.trans ?_ (by assumption))⟩

theorem height_any (a b c d n : Int) (w : World) :
    Calls Try.prog 16 #[.agg #[.int .i64 a, .int .i64 b, .int .i64 c, .int .i64 d], .int .i64 n] w
      fun e w' => e = .returned (.tuple #[.int .i64 (scaleG (gok a b c d) n 1000000 (near (n * d) c) 1000000).1, .int .i64 (scaleG (gok a b c d) n 1000000 (near (n * d) c) 1000000).2]) ∧ Ext w w' := by
  have hq : gok a b c d = true → 0 ≤ d ∧ d ≤ 100000000 ∧ 1 ≤ c ∧ c ≤ 100000000 := fun h => by have := gok_e h; omega
  have HQ := Lib.hid hq
  clear hq
  go_enter Try.func16, Try.ntmps16
  go_wp2_with (go_at_call 27; refine (scale_any _ _ _ _ _ _ _ _ _ _ (by omega) HQ.out).mono ?_; rintro e w1 ⟨rfl, hb1⟩; obtain ⟨hc1, hf1, hz1⟩ := hb1.facts)
  go_ret2
  exact ⟨rfl, by repeat (first | exact Ext.refl _ | refine Ext.alloc ?_ _ | refine Ext.trans ?_ (by assumption))⟩
end Go.Proofs.Ytgcdbnhddjajbaa
