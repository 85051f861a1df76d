/- The contracts of Check of gauge, and of its reference. -/
import Derived.Test.YtepegahgiciegaaRows
import Derived.Test.YtepegahgiciegaaBase
import Derived.Test.YtepegahgiciegaaGaugeP
import Derived.Deep.QuietTactic
import Derived.BigQuiet
import Derived.Deep.RegionHeld3
namespace Go.Proofs.Ytepegahgiciegaa
open Go.RowKit


theorem gwithin_any (n lo hi : Int) (w : World) :
    Calls Try.prog 37 #[.int .i64 n, .int .i64 lo, .int .i64 hi] w fun e w' => e = .returned (.bool (inR n lo hi)) ∧ w = w' := by
  by_cases h : lo ≤ n
  · go_enter Try.func37, Try.ntmps37
    go_wp2
    go_ret
    exact ⟨by simp [inR, h], rfl⟩
  · go_enter Try.func37, Try.ntmps37
    go_wp2
    go_ret
    exact ⟨by rw [inR_f (by omega)]; rfl, rfl⟩

theorem gcheck_any (a b c d : Int) (w : World) :
    Calls Try.prog 29 #[.agg #[.int .i64 a, .int .i64 b, .int .i64 c, .int .i64 d]] w fun e w' => e = .returned (.int .i64 (gerr a b c d)) ∧ Ext w w' := by
  have i0 : ∀ w, (Instr.index 68 (.agg #[.int .i64 a, .int .i64 b, .int .i64 c, .int .i64 d]) (.int .i64 0)).run Try.prog w = .ok (.int .i64 a) w := fun _ => by kernel_rfl
  have i1 : ∀ w, (Instr.index 68 (.agg #[.int .i64 a, .int .i64 b, .int .i64 c, .int .i64 d]) (.int .i64 1)).run Try.prog w = .ok (.int .i64 b) w := fun _ => by kernel_rfl
  have i2 : ∀ w, (Instr.index 68 (.agg #[.int .i64 a, .int .i64 b, .int .i64 c, .int .i64 d]) (.int .i64 2)).run Try.prog w = .ok (.int .i64 c) w := fun _ => by kernel_rfl
  have i3 : ∀ w, (Instr.index 68 (.agg #[.int .i64 a, .int .i64 b, .int .i64 c, .int .i64 d]) (.int .i64 3)).run Try.prog w = .ok (.int .i64 d) w := fun _ => by kernel_rfl
  cases ha : inR a 1 10000
  · go_enter Try.func29, Try.ntmps29
    go_wp2_with fail
    refine wp_loop_rounds 1 ?_
    rw [rounds_succ]
    go_wp2_with (go_at_call 37; refine (gwithin_any _ _ _ _).mono ?_; rintro e w1 ⟨rfl, rfl⟩)
    go_ret
    exact ⟨by simp [gerr, gok, ha], (Ext.refl _).alloc _⟩
  cases hb : inR b 1 10000
  · go_enter Try.func29, Try.ntmps29
    go_wp2_with fail
    refine wp_loop_rounds 2 ?_
    rw [rounds_succ]
    go_wp2_with (go_at_call 37; refine (gwithin_any _ _ _ _).mono ?_; rintro e w1 ⟨rfl, rfl⟩)
    rw [rounds_succ]
    go_wp2_with (go_at_call 37; refine (gwithin_any _ _ _ _).mono ?_; rintro e w1 ⟨rfl, rfl⟩)
    go_ret
    exact ⟨by simp [gerr, gok, ha, hb], (Ext.refl _).alloc _⟩
  cases hc : inR c 1 10000
  · go_enter Try.func29, Try.ntmps29
    go_wp2_with fail
    refine wp_loop_rounds 3 ?_
    rw [rounds_succ]
    go_wp2_with (go_at_call 37; refine (gwithin_any _ _ _ _).mono ?_; rintro e w1 ⟨rfl, rfl⟩)
    rw [rounds_succ]
    go_wp2_with (go_at_call 37; refine (gwithin_any _ _ _ _).mono ?_; rintro e w1 ⟨rfl, rfl⟩)
    rw [rounds_succ]
    go_wp2_with (go_at_call 37; refine (gwithin_any _ _ _ _).mono ?_; rintro e w1 ⟨rfl, rfl⟩)
    go_ret
    exact ⟨by simp [gerr, gok, ha, hb, hc], (Ext.refl _).alloc _⟩
  cases hd : inR d 1 10000
  · go_enter Try.func29, Try.ntmps29
    go_wp2_with fail
    refine wp_loop_rounds 4 ?_
    rw [rounds_succ]
    go_wp2_with (go_at_call 37; refine (gwithin_any _ _ _ _).mono ?_; rintro e w1 ⟨rfl, rfl⟩)
    rw [rounds_succ]
    go_wp2_with (go_at_call 37; refine (gwithin_any _ _ _ _).mono ?_; rintro e w1 ⟨rfl, rfl⟩)
    rw [rounds_succ]
    go_wp2_with (go_at_call 37; refine (gwithin_any _ _ _ _).mono ?_; rintro e w1 ⟨rfl, rfl⟩)
    rw [rounds_succ]
    go_wp2_with (go_at_call 37; refine (gwithin_any _ _ _ _).mono ?_; rintro e w1 ⟨rfl, rfl⟩)
    go_ret
    exact ⟨by simp [gerr, gok, ha, hb, hc, hd], (Ext.refl _).alloc _⟩
  · go_enter Try.func29, Try.ntmps29
    go_wp2_with fail
    refine wp_loop_rounds 5 ?_
    rw [rounds_succ]
    go_wp2_with (go_at_call 37; refine (gwithin_any _ _ _ _).mono ?_; rintro e w1 ⟨rfl, rfl⟩)
    rw [rounds_succ]
    go_wp2_with (go_at_call 37; refine (gwithin_any _ _ _ _).mono ?_; rintro e w1 ⟨rfl, rfl⟩)
    rw [rounds_succ]
    go_wp2_with (go_at_call 37; refine (gwithin_any _ _ _ _).mono ?_; rintro e w1 ⟨rfl, rfl⟩)
    rw [rounds_succ]
    go_wp2_with (go_at_call 37; refine (gwithin_any _ _ _ _).mono ?_; rintro e w1 ⟨rfl, rfl⟩)
    rw [rounds_succ]
    go_wp2_with (go_at_call 37; refine (gwithin_any _ _ _ _).mono ?_; rintro e w1 ⟨rfl, rfl⟩)
    go_ret
    exact ⟨by simp [gerr, gok, ha, hb, hc, hd], (Ext.refl _).alloc _⟩

theorem nearest_any (num den : Int) (w : World) (h0 : 0 ≤ num) (h1 : num ≤ 1000000000000000) (h2 : 1 ≤ den) (h3 : den ≤ 100000000) :
    Calls Try.prog 32 #[.int .i64 num, .int .i64 den] w fun e w' => e = .returned (.int .i64 (near num den)) ∧ w = w' := by
  have hq0 : 0 ≤ num / den := Int.ediv_nonneg h0 (by omega)
  have hq1 : num / den ≤ num := Int.ediv_le_self _ h0
  have hm0 : 0 ≤ num / den * den := Int.mul_nonneg hq0 (by omega)
  have hm1 : num / den * den ≤ num := Int.ediv_mul_le _ (by omega)
  by_cases hc : den ≤ 2 * (num - num / den * den)
  · have HN := Lib.hid (near_up h0 h2 hc)
    go_enter Try.func32, Try.ntmps32
    go_wp2
    go_ret
    exact ⟨by rw [HN.out]; rfl, rfl⟩
  · have HN := Lib.hid (near_down h0 h2 hc)
    go_enter Try.func32, Try.ntmps32
    go_wp2
    go_ret
    exact ⟨by rw [HN.out]; rfl, rfl⟩

set_option maxHeartbeats 4000000 in
theorem rcheck_any (a b c d : Int) (w : World) :
    Calls Try.prog 28 #[.agg #[.int .i64 a, .int .i64 b, .int .i64 c, .int .i64 d]] w fun e w' => e = .returned (.int .i64 (gerr a b c d)) ∧ Ext w w' := by
  cases ha : inR a 1 10000
  · have hn := inR_n ha
    rcases hn with hn | hn
    · (go_enter Try.func28, Try.ntmps28; go_wp2; go_ret; exact ⟨by simp [gerr, gok, ha], (Ext.refl _).alloc _⟩)
    · (go_enter Try.func28, Try.ntmps28; go_wp2; go_ret; exact ⟨by simp [gerr, gok, ha], (Ext.refl _).alloc _⟩)
  obtain ⟨a0, a1⟩ := inR_e ha
  cases hb : inR b 1 10000
  · have hn := inR_n hb
    rcases hn with hn | hn
    · (go_enter Try.func28, Try.ntmps28; go_wp2; go_ret; exact ⟨by simp [gerr, gok, ha, hb], (Ext.refl _).alloc _⟩)
    · (go_enter Try.func28, Try.ntmps28; go_wp2; go_ret; exact ⟨by simp [gerr, gok, ha, hb], (Ext.refl _).alloc _⟩)
  obtain ⟨b0, b1⟩ := inR_e hb
  cases hc : inR c 1 10000
  · have hn := inR_n hc
    rcases hn with hn | hn
    · (go_enter Try.func28, Try.ntmps28; go_wp2; go_ret; exact ⟨by simp [gerr, gok, ha, hb, hc], (Ext.refl _).alloc _⟩)
    · (go_enter Try.func28, Try.ntmps28; go_wp2; go_ret; exact ⟨by simp [gerr, gok, ha, hb, hc], (Ext.refl _).alloc _⟩)
  obtain ⟨c0, c1⟩ := inR_e hc
  cases hd : inR d 1 10000
  · have hn := inR_n hd
    rcases hn with hn | hn
    · (go_enter Try.func28, Try.ntmps28; go_wp2; go_ret; exact ⟨by simp [gerr, gok, ha, hb, hc, hd], (Ext.refl _).alloc _⟩)
    · (go_enter Try.func28, Try.ntmps28; go_wp2; go_ret; exact ⟨by simp [gerr, gok, ha, hb, hc, hd], (Ext.refl _).alloc _⟩)
  obtain ⟨d0, d1⟩ := inR_e hd
  · (go_enter Try.func28, Try.ntmps28; go_wp2; go_ret; exact ⟨by simp [gerr, gok, ha, hb, hc, hd], (Ext.refl _).alloc _⟩)
end Go.Proofs.Ytepegahgiciegaa
