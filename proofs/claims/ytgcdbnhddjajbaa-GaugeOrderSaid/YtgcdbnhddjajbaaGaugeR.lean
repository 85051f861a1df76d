/- The contracts of the reference of gauge. -/
import Derived.Test.YtgcdbnhddjajbaaRows
import Derived.Test.YtgcdbnhddjajbaaBase
import Derived.Test.YtgcdbnhddjajbaaGaugeP
import Derived.Deep.QuietTactic
import Derived.BigQuiet
import Derived.Deep.RegionHeld3
namespace Go.Proofs.Ytgcdbnhddjajbaa
open Go.RowKit

theorem nearest_any (num den : Int) (w : World) (h0 : 0 ≤ num) (h1 : num ≤ 1000000000000000) (h2 : 1 ≤ den) (h3 : den ≤ 100000000) :
    Calls Try.prog 31 #[.int .i64 num, .int .i64 den] w fun e w' => e = .returned (.int .i64 (near num den)) ∧ w = w' := by
  have hq0 : 0 ≤ num / den := Int.ediv_nonneg h0 (by omega)
  have hq1 : num / den ≤ num := Int.ediv_le_self _ h0
  have hm0 : 0 ≤ num / den * den := Int.mul_nonneg hq0 (by omega)
  have hm1 : num / den * den ≤ num := Int.ediv_mul_le _ (by omega)
  by_cases hc : den ≤ 2 * (num - num / den * den)
  · have HN := Lib.hid (near_up h0 h2 hc)
    go_enter Try.func31, Try.ntmps31
    go_wp2
    go_ret
    exact ⟨by rw [HN.out]; rfl, rfl⟩
  · have HN := Lib.hid (near_down h0 h2 hc)
    go_enter Try.func31, Try.ntmps31
    go_wp2
    go_ret
    exact ⟨by rw [HN.out]; rfl, rfl⟩

set_option maxHeartbeats 4000000 in
theorem rcheck_any (a b c d : Int) (w : World) :
    Calls Try.prog 19 #[.agg #[.int .i64 a, .int .i64 b, .int .i64 c, .int .i64 d]] w fun e w' => e = .returned (.int .i64 (gerr a b c d)) ∧ Ext w w' := by
  cases ha : inR a 1 10000
  · have hn := inR_n ha
    rcases hn with hn | hn
    · (go_enter Try.func19, Try.ntmps19; go_wp2; go_ret; exact ⟨by simp [gerr, gok, ha], (Ext.refl _).alloc _⟩)
    · (go_enter Try.func19, Try.ntmps19; go_wp2; go_ret; exact ⟨by simp [gerr, gok, ha], (Ext.refl _).alloc _⟩)
  obtain ⟨a0, a1⟩ := inR_e ha
  cases hb : inR b 1 10000
  · have hn := inR_n hb
    rcases hn with hn | hn
    · (go_enter Try.func19, Try.ntmps19; go_wp2; go_ret; exact ⟨by simp [gerr, gok, ha, hb], (Ext.refl _).alloc _⟩)
    · (go_enter Try.func19, Try.ntmps19; go_wp2; go_ret; exact ⟨by simp [gerr, gok, ha, hb], (Ext.refl _).alloc _⟩)
  obtain ⟨b0, b1⟩ := inR_e hb
  cases hc : inR c 1 10000
  · have hn := inR_n hc
    rcases hn with hn | hn
    · (go_enter Try.func19, Try.ntmps19; go_wp2; go_ret; exact ⟨by simp [gerr, gok, ha, hb, hc], (Ext.refl _).alloc _⟩)
    · (go_enter Try.func19, Try.ntmps19; go_wp2; go_ret; exact ⟨by simp [gerr, gok, ha, hb, hc], (Ext.refl _).alloc _⟩)
  obtain ⟨c0, c1⟩ := inR_e hc
  cases hd : inR d 1 10000
  · have hn := inR_n hd
    rcases hn with hn | hn
    · (go_enter Try.func19, Try.ntmps19; go_wp2; go_ret; exact ⟨by simp [gerr, gok, ha, hb, hc, hd], (Ext.refl _).alloc _⟩)
    · (go_enter Try.func19, Try.ntmps19; go_wp2; go_ret; exact ⟨by simp [gerr, gok, ha, hb, hc, hd], (Ext.refl _).alloc _⟩)
  obtain ⟨d0, d1⟩ := inR_e hd
  · (go_enter Try.func19, Try.ntmps19; go_wp2; go_ret; exact ⟨by simp [gerr, gok, ha, hb, hc, hd], (Ext.refl _).alloc _⟩)

theorem rscaled_any (n most num den result : Int) (w : World) (hm : most ≤ 1000000) (q0 : 0 ≤ num) (q1 : num ≤ 100000000) (q2 : 1 ≤ den) (q3 : den ≤ 100000000) :
    Calls Try.prog 28 #[.int .i64 n, .int .i64 most, .int .i64 num, .int .i64 den, .int .i64 result] w
      fun e w' => e = .returned (.tuple #[.int .i64 (scaleG true n most (near (n * num) den) result).1, .int .i64 (scaleG true n most (near (n * num) den) result).2]) ∧ w = w' := by
  cases hn : inR n 0 most
  · have hk : n < 0 ∨ 0 ≤ n ∧ most < n := by have := inR_n hn; omega
    rcases hk with hk | ⟨hk0, hk⟩
    · go_enter Try.func28, Try.ntmps28
      go_wp2
      go_ret2
      exact ⟨by rw [scaleG_arg hn]; rfl, rfl⟩
    · go_enter Try.func28, Try.ntmps28
      go_wp2
      go_ret2
      exact ⟨by rw [scaleG_arg hn]; rfl, rfl⟩
  · obtain ⟨n0, n1⟩ := inR_e hn
    obtain ⟨p0, p1⟩ := prod_bd n0 (show n ≤ 1000000 by omega) q0 q1
    by_cases hr : result < near (n * num) den
    · have HS := Lib.hid (scaleG_range hn hr)
      go_enter Try.func28, Try.ntmps28
      go_wp2_with (go_at_call 31; refine (nearest_any _ _ _ p0 (by omega) q2 q3).mono ?_; rintro e w1 ⟨rfl, rfl⟩)
      go_ret2
      exact ⟨by rw [HS.out]; rfl, rfl⟩
    · have HS := Lib.hid (scaleG_ok hn hr)
      go_enter Try.func28, Try.ntmps28
      go_wp2_with (go_at_call 31; refine (nearest_any _ _ _ p0 (by omega) q2 q3).mono ?_; rintro e w1 ⟨rfl, rfl⟩)
      go_ret2
      exact ⟨by rw [HS.out]; rfl, rfl⟩

theorem rstitches_any (a b c d n : Int) (w : World) :
    Calls Try.prog 11 #[.agg #[.int .i64 a, .int .i64 b, .int .i64 c, .int .i64 d], .int .i64 n] w
      fun e w' => e = .returned (.tuple #[.int .i64 (scaleG (gok a b c d) n 1000000 (near (n * a) b) 1000000).1, .int .i64 (scaleG (gok a b c d) n 1000000 (near (n * a) b) 1000000).2]) ∧ Ext w w' := by
  cases hg : gok a b c d
  · have he : gerr a b c d = 8 := by simp [gerr, hg]
    go_enter Try.func11, Try.ntmps11
    go_wp2_with (go_at_call 19; refine (rcheck_any _ _ _ _ _).mono ?_; rintro e w1 ⟨rfl, hb1⟩; obtain ⟨hc1, hf1, hz1⟩ := hb1.facts)
    go_ret2
    exact ⟨rfl, by repeat (first | exact Ext.refl _ | refine Ext.alloc ?_ _ | refine Ext.drew ?_ | refine Ext.trans ?_ (by assumption))⟩
  · have he : gerr a b c d = 0 := by simp [gerr, hg]
    have hG := gok_e hg
    go_enter Try.func11, Try.ntmps11
    go_wp2_with (first | (go_at_call 19; refine (rcheck_any _ _ _ _ _).mono ?_; rintro e w1 ⟨rfl, hb1⟩; obtain ⟨hc1, hf1, hz1⟩ := hb1.facts) | (go_at_call 28; refine (rscaled_any _ _ _ _ _ _ (by omega) (by omega) (by omega) (by omega) (by omega)).mono ?_; rintro e w2 ⟨rfl, rfl⟩))
    go_ret2
    exact ⟨rfl, by repeat (first | exact Ext.refl _ | refine Ext.alloc ?_ _ | refine Ext.drew ?_ | refine Ext.trans ?_ (by assumption))⟩

theorem rrows_any (a b c d n : Int) (w : World) :
    Calls Try.prog 13 #[.agg #[.int .i64 a, .int .i64 b, .int .i64 c, .int .i64 d], .int .i64 n] w
      fun e w' => e = .returned (.tuple #[.int .i64 (scaleG (gok a b c d) n 1000000 (near (n * c) d) 1000000).1, .int .i64 (scaleG (gok a b c d) n 1000000 (near (n * c) d) 1000000).2]) ∧ Ext w w' := by
  cases hg : gok a b c d
  · have he : gerr a b c d = 8 := by simp [gerr, hg]
    go_enter Try.func13, Try.ntmps13
    go_wp2_with (go_at_call 19; refine (rcheck_any _ _ _ _ _).mono ?_; rintro e w1 ⟨rfl, hb1⟩; obtain ⟨hc1, hf1, hz1⟩ := hb1.facts)
    go_ret2
    exact ⟨rfl, by repeat (first | exact Ext.refl _ | refine Ext.alloc ?_ _ | refine Ext.drew ?_ | refine Ext.trans ?_ (by assumption))⟩
  · have he : gerr a b c d = 0 := by simp [gerr, hg]
    have hG := gok_e hg
    go_enter Try.func13, Try.ntmps13
    go_wp2_with (first | (go_at_call 19; refine (rcheck_any _ _ _ _ _).mono ?_; rintro e w1 ⟨rfl, hb1⟩; obtain ⟨hc1, hf1, hz1⟩ := hb1.facts) | (go_at_call 28; refine (rscaled_any _ _ _ _ _ _ (by omega) (by omega) (by omega) (by omega) (by omega)).mono ?_; rintro e w2 ⟨rfl, rfl⟩))
    go_ret2
    exact ⟨rfl, by repeat (first | exact Ext.refl _ | refine Ext.alloc ?_ _ | refine Ext.drew ?_ | refine Ext.trans ?_ (by assumption))⟩

theorem rwidth_any (a b c d n : Int) (w : World) :
    Calls Try.prog 15 #[.agg #[.int .i64 a, .int .i64 b, .int .i64 c, .int .i64 d], .int .i64 n] w
      fun e w' => e = .returned (.tuple #[.int .i64 (scaleG (gok a b c d) n 1000000 (near (n * b) a) 1000000).1, .int .i64 (scaleG (gok a b c d) n 1000000 (near (n * b) a) 1000000).2]) ∧ Ext w w' := by
  cases hg : gok a b c d
  · have he : gerr a b c d = 8 := by simp [gerr, hg]
    go_enter Try.func15, Try.ntmps15
    go_wp2_with (go_at_call 19; refine (rcheck_any _ _ _ _ _).mono ?_; rintro e w1 ⟨rfl, hb1⟩; obtain ⟨hc1, hf1, hz1⟩ := hb1.facts)
    go_ret2
    exact ⟨rfl, by repeat (first | exact Ext.refl _ | refine Ext.alloc ?_ _ | refine Ext.drew ?_ | refine Ext.trans ?_ (by assumption))⟩
  · have he : gerr a b c d = 0 := by simp [gerr, hg]
    have hG := gok_e hg
    go_enter Try.func15, Try.ntmps15
    go_wp2_with (first | (go_at_call 19; refine (rcheck_any _ _ _ _ _).mono ?_; rintro e w1 ⟨rfl, hb1⟩; obtain ⟨hc1, hf1, hz1⟩ := hb1.facts) | (go_at_call 28; refine (rscaled_any _ _ _ _ _ _ (by omega) (by omega) (by omega) (by omega) (by omega)).mono ?_; rintro e w2 ⟨rfl, rfl⟩))
    go_ret2
    exact ⟨rfl, by repeat (first | exact Ext.refl _ | refine Ext.alloc ?_ _ | refine Ext.drew ?_ | refine Ext.trans ?_ (by assumption))⟩

theorem rheight_any (a b c d n : Int) (w : World) :
    Calls Try.prog 17 #[.agg #[.int .i64 a, .int .i64 b, .int .i64 c, .int .i64 d], .int .i64 n] w
      fun e w' => e = .returned (.tuple #[.int .i64 (scaleG (gok a b c d) n 1000000 (near (n * d) c) 1000000).1, .int .i64 (scaleG (gok a b c d) n 1000000 (near (n * d) c) 1000000).2]) ∧ Ext w w' := by
  cases hg : gok a b c d
  · have he : gerr a b c d = 8 := by simp [gerr, hg]
    go_enter Try.func17, Try.ntmps17
    go_wp2_with (go_at_call 19; refine (rcheck_any _ _ _ _ _).mono ?_; rintro e w1 ⟨rfl, hb1⟩; obtain ⟨hc1, hf1, hz1⟩ := hb1.facts)
    go_ret2
    exact ⟨rfl, by repeat (first | exact Ext.refl _ | refine Ext.alloc ?_ _ | refine Ext.drew ?_ | refine Ext.trans ?_ (by assumption))⟩
  · have he : gerr a b c d = 0 := by simp [gerr, hg]
    have hG := gok_e hg
    go_enter Try.func17, Try.ntmps17
    go_wp2_with (first | (go_at_call 19; refine (rcheck_any _ _ _ _ _).mono ?_; rintro e w1 ⟨rfl, hb1⟩; obtain ⟨hc1, hf1, hz1⟩ := hb1.facts) | (go_at_call 28; refine (rscaled_any _ _ _ _ _ _ (by omega) (by omega) (by omega) (by omega) (by omega)).mono ?_; rintro e w2 ⟨rfl, rfl⟩))
    go_ret2
    exact ⟨rfl, by repeat (first | exact Ext.refl _ | refine Ext.alloc ?_ _ | refine Ext.drew ?_ | refine Ext.trans ?_ (by assumption))⟩
end Go.Proofs.Ytgcdbnhddjajbaa
