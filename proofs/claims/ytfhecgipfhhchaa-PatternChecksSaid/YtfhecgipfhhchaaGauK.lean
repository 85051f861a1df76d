/- The contracts of Check of gauge, and of its reference. -/
import Derived.Test.YtfhecgipfhhchaaRows
import Derived.Test.YtfhecgipfhhchaaBase
import Derived.Test.YtfhecgipfhhchaaGauP
import Derived.Deep.QuietTactic
import Derived.BigQuiet
import Derived.Deep.RegionHeld3
namespace Go.Proofs.Ytfhecgipfhhchaa
set_option maxRecDepth 100000
open Go.RowKit


theorem gwithin_any (n lo hi : Int) (w : World) :
    Calls Try.prog 29 #[.int .i64 n, .int .i64 lo, .int .i64 hi] w fun e w' => e = .returned (.bool (ginR n lo hi)) ∧ w = w' := by
  by_cases h : lo ≤ n
  · go_enter Try.func29, Try.ntmps29
    go_wp2
    go_ret
    exact ⟨by simp [ginR, h], rfl⟩
  · go_enter Try.func29, Try.ntmps29
    go_wp2
    go_ret
    exact ⟨by rw [ginR_f (by omega)]; rfl, rfl⟩

theorem gcheck_any (a b c d : Int) (w : World) :
    Calls Try.prog 21 #[.agg #[.int .i64 a, .int .i64 b, .int .i64 c, .int .i64 d]] w fun e w' => e = .returned (.int .i64 (gerr a b c d)) ∧ Ext w w' := by
  have i0 : ∀ w, (Instr.index 70 (.agg #[.int .i64 a, .int .i64 b, .int .i64 c, .int .i64 d]) (.int .i64 0)).run Try.prog w = .ok (.int .i64 a) w := fun _ => by kernel_rfl
  have i1 : ∀ w, (Instr.index 70 (.agg #[.int .i64 a, .int .i64 b, .int .i64 c, .int .i64 d]) (.int .i64 1)).run Try.prog w = .ok (.int .i64 b) w := fun _ => by kernel_rfl
  have i2 : ∀ w, (Instr.index 70 (.agg #[.int .i64 a, .int .i64 b, .int .i64 c, .int .i64 d]) (.int .i64 2)).run Try.prog w = .ok (.int .i64 c) w := fun _ => by kernel_rfl
  have i3 : ∀ w, (Instr.index 70 (.agg #[.int .i64 a, .int .i64 b, .int .i64 c, .int .i64 d]) (.int .i64 3)).run Try.prog w = .ok (.int .i64 d) w := fun _ => by kernel_rfl
  cases ha : ginR a 1 10000
  · go_enter Try.func21, Try.ntmps21
    go_wp2_with fail
    refine wp_loop_rounds 1 ?_
    rw [rounds_succ]
    go_wp2_with (go_at_call 29; refine (gwithin_any _ _ _ _).mono ?_; rintro e w1 ⟨rfl, rfl⟩)
    go_ret
    exact ⟨by simp [gerr, gok, ha], (Ext.refl _).alloc _⟩
  cases hb : ginR b 1 10000
  · go_enter Try.func21, Try.ntmps21
    go_wp2_with fail
    refine wp_loop_rounds 2 ?_
    rw [rounds_succ]
    go_wp2_with (go_at_call 29; refine (gwithin_any _ _ _ _).mono ?_; rintro e w1 ⟨rfl, rfl⟩)
    rw [rounds_succ]
    go_wp2_with (go_at_call 29; refine (gwithin_any _ _ _ _).mono ?_; rintro e w1 ⟨rfl, rfl⟩)
    go_ret
    exact ⟨by simp [gerr, gok, ha, hb], (Ext.refl _).alloc _⟩
  cases hc : ginR c 1 10000
  · go_enter Try.func21, Try.ntmps21
    go_wp2_with fail
    refine wp_loop_rounds 3 ?_
    rw [rounds_succ]
    go_wp2_with (go_at_call 29; refine (gwithin_any _ _ _ _).mono ?_; rintro e w1 ⟨rfl, rfl⟩)
    rw [rounds_succ]
    go_wp2_with (go_at_call 29; refine (gwithin_any _ _ _ _).mono ?_; rintro e w1 ⟨rfl, rfl⟩)
    rw [rounds_succ]
    go_wp2_with (go_at_call 29; refine (gwithin_any _ _ _ _).mono ?_; rintro e w1 ⟨rfl, rfl⟩)
    go_ret
    exact ⟨by simp [gerr, gok, ha, hb, hc], (Ext.refl _).alloc _⟩
  cases hd : ginR d 1 10000
  · go_enter Try.func21, Try.ntmps21
    go_wp2_with fail
    refine wp_loop_rounds 4 ?_
    rw [rounds_succ]
    go_wp2_with (go_at_call 29; refine (gwithin_any _ _ _ _).mono ?_; rintro e w1 ⟨rfl, rfl⟩)
    rw [rounds_succ]
    go_wp2_with (go_at_call 29; refine (gwithin_any _ _ _ _).mono ?_; rintro e w1 ⟨rfl, rfl⟩)
    rw [rounds_succ]
    go_wp2_with (go_at_call 29; refine (gwithin_any _ _ _ _).mono ?_; rintro e w1 ⟨rfl, rfl⟩)
    rw [rounds_succ]
    go_wp2_with (go_at_call 29; refine (gwithin_any _ _ _ _).mono ?_; rintro e w1 ⟨rfl, rfl⟩)
    go_ret
    exact ⟨by simp [gerr, gok, ha, hb, hc, hd], (Ext.refl _).alloc _⟩
  · go_enter Try.func21, Try.ntmps21
    go_wp2_with fail
    refine wp_loop_rounds 5 ?_
    rw [rounds_succ]
    go_wp2_with (go_at_call 29; refine (gwithin_any _ _ _ _).mono ?_; rintro e w1 ⟨rfl, rfl⟩)
    rw [rounds_succ]
    go_wp2_with (go_at_call 29; refine (gwithin_any _ _ _ _).mono ?_; rintro e w1 ⟨rfl, rfl⟩)
    rw [rounds_succ]
    go_wp2_with (go_at_call 29; refine (gwithin_any _ _ _ _).mono ?_; rintro e w1 ⟨rfl, rfl⟩)
    rw [rounds_succ]
    go_wp2_with (go_at_call 29; refine (gwithin_any _ _ _ _).mono ?_; rintro e w1 ⟨rfl, rfl⟩)
    rw [rounds_succ]
    go_wp2_with (go_at_call 29; refine (gwithin_any _ _ _ _).mono ?_; rintro e w1 ⟨rfl, rfl⟩)
    go_ret
    exact ⟨by simp [gerr, gok, ha, hb, hc, hd], (Ext.refl _).alloc _⟩

set_option maxHeartbeats 4000000 in
theorem grcheck_any (a b c d : Int) (w : World) :
    Calls Try.prog 32 #[.agg #[.int .i64 a, .int .i64 b, .int .i64 c, .int .i64 d]] w fun e w' => e = .returned (.int .i64 (gerr a b c d)) ∧ Ext w w' := by
  cases ha : ginR a 1 10000
  · have hn := ginR_n ha
    rcases hn with hn | hn
    · (go_enter Try.func32, Try.ntmps32; go_wp2; go_ret; exact ⟨by simp [gerr, gok, ha], (Ext.refl _).alloc _⟩)
    · (go_enter Try.func32, Try.ntmps32; go_wp2; go_ret; exact ⟨by simp [gerr, gok, ha], (Ext.refl _).alloc _⟩)
  obtain ⟨a0, a1⟩ := ginR_e ha
  cases hb : ginR b 1 10000
  · have hn := ginR_n hb
    rcases hn with hn | hn
    · (go_enter Try.func32, Try.ntmps32; go_wp2; go_ret; exact ⟨by simp [gerr, gok, ha, hb], (Ext.refl _).alloc _⟩)
    · (go_enter Try.func32, Try.ntmps32; go_wp2; go_ret; exact ⟨by simp [gerr, gok, ha, hb], (Ext.refl _).alloc _⟩)
  obtain ⟨b0, b1⟩ := ginR_e hb
  cases hc : ginR c 1 10000
  · have hn := ginR_n hc
    rcases hn with hn | hn
    · (go_enter Try.func32, Try.ntmps32; go_wp2; go_ret; exact ⟨by simp [gerr, gok, ha, hb, hc], (Ext.refl _).alloc _⟩)
    · (go_enter Try.func32, Try.ntmps32; go_wp2; go_ret; exact ⟨by simp [gerr, gok, ha, hb, hc], (Ext.refl _).alloc _⟩)
  obtain ⟨c0, c1⟩ := ginR_e hc
  cases hd : ginR d 1 10000
  · have hn := ginR_n hd
    rcases hn with hn | hn
    · (go_enter Try.func32, Try.ntmps32; go_wp2; go_ret; exact ⟨by simp [gerr, gok, ha, hb, hc, hd], (Ext.refl _).alloc _⟩)
    · (go_enter Try.func32, Try.ntmps32; go_wp2; go_ret; exact ⟨by simp [gerr, gok, ha, hb, hc, hd], (Ext.refl _).alloc _⟩)
  obtain ⟨d0, d1⟩ := ginR_e hd
  · (go_enter Try.func32, Try.ntmps32; go_wp2; go_ret; exact ⟨by simp [gerr, gok, ha, hb, hc, hd], (Ext.refl _).alloc _⟩)
end Go.Proofs.Ytfhecgipfhhchaa
