/- The contracts of Fit and Change, of the program and of the reference. -/
import Derived.Test.YtgcdbnhddjajbaaGaugeA
import Derived.Test.YtgcdbnhddjajbaaGaugeR
namespace Go.Proofs.Ytgcdbnhddjajbaa
open Go.RowKit

set_option maxHeartbeats 1000000 in
theorem fit_any (a b c d width every extra : Int) (w : World) :
    Calls Try.prog 20 #[.agg #[.int .i64 a, .int .i64 b, .int .i64 c, .int .i64 d], .int .i64 width, .int .i64 every, .int .i64 extra] w
      fun e w' => e = .returned (.tuple #[.int .i64 (fitG (gok a b c d) a b width every extra).1, .int .i64 (fitG (gok a b c d) a b width every extra).2]) ∧ Ext w w' := by
  cases hg : gok a b c d
  · have he : gerr a b c d = 8 := by simp [gerr, hg]
    go_enter Try.func20, Try.ntmps20
    go_wp2_with (go_at_call 18; refine (gcheck_any _ _ _ _ _).mono ?_; rintro e w1 ⟨rfl, hb1⟩; obtain ⟨hc1, hf1, hz1⟩ := hb1.facts)
    go_ret2
    exact ⟨rfl, by repeat (first | exact Ext.refl _ | refine Ext.alloc ?_ _ | refine Ext.drew ?_ | refine Ext.drewN ?_ _ | refine Ext.trans ?_ (by assumption))⟩
  have he : gerr a b c d = 0 := by simp [gerr, hg]
  cases h1 : inR width 0 1000000
  · have HF := Lib.hid (fitG_arg a b width every extra (by rw [h1]; rfl))
    go_enter Try.func20, Try.ntmps20
    go_wp2_with (first | (go_at_call 18; refine (gcheck_any _ _ _ _ _).mono ?_; rintro e w1 ⟨rfl, hb1⟩; obtain ⟨hc1, hf1, hz1⟩ := hb1.facts) | (go_at_call 29; refine (within_any _ _ _ _).mono ?_; rintro e w2 ⟨rfl, rfl⟩))
    go_ret2
    exact ⟨by rw [HF.out]; rfl, by repeat (first | exact Ext.refl _ | refine Ext.alloc ?_ _ | refine Ext.drew ?_ | refine Ext.drewN ?_ _ | refine Ext.trans ?_ (by assumption))⟩
  cases h2 : inR every 1 1000
  · have HF := Lib.hid (fitG_arg a b width every extra (by rw [h1, h2]; rfl))
    go_enter Try.func20, Try.ntmps20
    go_wp2_with (first | (go_at_call 18; refine (gcheck_any _ _ _ _ _).mono ?_; rintro e w1 ⟨rfl, hb1⟩; obtain ⟨hc1, hf1, hz1⟩ := hb1.facts) | (go_at_call 29; refine (within_any _ _ _ _).mono ?_; rintro e w2 ⟨rfl, rfl⟩))
    go_ret2
    exact ⟨by rw [HF.out]; rfl, by repeat (first | exact Ext.refl _ | refine Ext.alloc ?_ _ | refine Ext.drew ?_ | refine Ext.drewN ?_ _ | refine Ext.trans ?_ (by assumption))⟩
  cases h3 : inR extra 0 1000
  · have HF := Lib.hid (fitG_arg a b width every extra (by rw [h1, h2, h3]; rfl))
    go_enter Try.func20, Try.ntmps20
    go_wp2_with (first | (go_at_call 18; refine (gcheck_any _ _ _ _ _).mono ?_; rintro e w1 ⟨rfl, hb1⟩; obtain ⟨hc1, hf1, hz1⟩ := hb1.facts) | (go_at_call 29; refine (within_any _ _ _ _).mono ?_; rintro e w2 ⟨rfl, rfl⟩))
    go_ret2
    exact ⟨by rw [HF.out]; rfl, by repeat (first | exact Ext.refl _ | refine Ext.alloc ?_ _ | refine Ext.drew ?_ | refine Ext.drewN ?_ _ | refine Ext.trans ?_ (by assumption))⟩
  have HR := Lib.hid (show (inR width 0 1000000 && inR every 1 1000 && inR extra 0 1000) = true by rw [h1, h2, h3]; rfl)
  obtain ⟨⟨ga0, ga1⟩, ⟨gb0, gb1⟩, -⟩ := gok_e hg
  obtain ⟨x0, x1⟩ := inR_e h1
  obtain ⟨y0, y1⟩ := inR_e h2
  obtain ⟨z0, z1⟩ := inR_e h3
  obtain ⟨p0, p1⟩ := prod_bd x0 x1 (show 0 ≤ a by omega) ga1
  obtain ⟨r0, r1⟩ := prod_bd z0 z1 (show 0 ≤ b by omega) gb1
  have s0 : 1 ≤ every * b := Int.mul_pos (by omega) (by omega)
  have s1 : every * b ≤ 1000 * 10000 := Int.mul_le_mul y1 gb1 (by omega) (by omega)
  by_cases hr : 0 < width * a - extra * b
  · have q0 : 0 ≤ (2 * (width * a - extra * b) + every * b - 1) / (2 * (every * b)) := Int.ediv_nonneg (by omega) (by omega)
    have q1 : (2 * (width * a - extra * b) + every * b - 1) / (2 * (every * b)) ≤ 2 * (width * a - extra * b) + every * b - 1 := Int.ediv_le_self _ (by omega)
    obtain ⟨t0, t1⟩ := prod_bd (show 0 ≤ every by omega) y1 q0 (show (2 * (width * a - extra * b) + every * b - 1) / (2 * (every * b)) ≤ 30000000000 by omega)
    by_cases hm : 1000000 < extra + every * ((2 * (width * a - extra * b) + every * b - 1) / (2 * (every * b)))
    · have HF := Lib.hid (fitG_range HR.out (by rw [fitN, if_pos hr]; exact hm))
      go_enter Try.func20, Try.ntmps20
      go_wp2_with (first | (go_at_call 18; refine (gcheck_any _ _ _ _ _).mono ?_; rintro e w1 ⟨rfl, hb1⟩; obtain ⟨hc1, hf1, hz1⟩ := hb1.facts) | (go_at_call 29; refine (within_any _ _ _ _).mono ?_; rintro e w2 ⟨rfl, rfl⟩))
      go_ret2
      exact ⟨by rw [HF.out]; rfl, by repeat (first | exact Ext.refl _ | refine Ext.alloc ?_ _ | refine Ext.drew ?_ | refine Ext.drewN ?_ _ | refine Ext.trans ?_ (by assumption))⟩
    · have HF := Lib.hid (fitG_ok HR.out (by rw [fitN, if_pos hr]; exact hm))
      have HN := Lib.hid (show fitN a b width every extra = _ by rw [fitN, if_pos hr])
      go_enter Try.func20, Try.ntmps20
      go_wp2_with (first | (go_at_call 18; refine (gcheck_any _ _ _ _ _).mono ?_; rintro e w1 ⟨rfl, hb1⟩; obtain ⟨hc1, hf1, hz1⟩ := hb1.facts) | (go_at_call 29; refine (within_any _ _ _ _).mono ?_; rintro e w2 ⟨rfl, rfl⟩))
      go_ret2
      exact ⟨by rw [HF.out, HN.out]; rfl, by repeat (first | exact Ext.refl _ | refine Ext.alloc ?_ _ | refine Ext.drew ?_ | refine Ext.drewN ?_ _ | refine Ext.trans ?_ (by assumption))⟩
  · have HF := Lib.hid (fitG_ok HR.out (by rw [fitN, if_neg hr]; omega))
    have HN := Lib.hid (show fitN a b width every extra = _ by rw [fitN, if_neg hr])
    go_enter Try.func20, Try.ntmps20
    go_wp2_with (first | (go_at_call 18; refine (gcheck_any _ _ _ _ _).mono ?_; rintro e w1 ⟨rfl, hb1⟩; obtain ⟨hc1, hf1, hz1⟩ := hb1.facts) | (go_at_call 29; refine (within_any _ _ _ _).mono ?_; rintro e w2 ⟨rfl, rfl⟩))
    go_ret2
    exact ⟨by rw [HF.out, HN.out]; rfl, by repeat (first | exact Ext.refl _ | refine Ext.alloc ?_ _ | refine Ext.drew ?_ | refine Ext.drewN ?_ _ | refine Ext.trans ?_ (by assumption))⟩

theorem change_any (a b c d a' b' c' d' n : Int) (w : World) :
    Calls Try.prog 22 #[.agg #[.int .i64 a, .int .i64 b, .int .i64 c, .int .i64 d], .agg #[.int .i64 a', .int .i64 b', .int .i64 c', .int .i64 d'], .int .i64 n] w
      fun e w' => e = .returned (.tuple #[.int .i64 (scaleG (gok a b c d && gok a' b' c' d') n 1000000 (near (n * (b * a')) (a * b')) 1000000).1, .int .i64 (scaleG (gok a b c d && gok a' b' c' d') n 1000000 (near (n * (b * a')) (a * b')) 1000000).2]) ∧ Ext w w' := by
  cases hg : gok a b c d
  · have he : gerr a b c d = 8 := by simp [gerr, hg]
    go_enter Try.func22, Try.ntmps22
    go_wp2_with (go_at_call 18; refine (gcheck_any _ _ _ _ _).mono ?_; rintro e w1 ⟨rfl, hb1⟩; obtain ⟨hc1, hf1, hz1⟩ := hb1.facts)
    go_ret2
    exact ⟨rfl, by repeat (first | exact Ext.refl _ | refine Ext.alloc ?_ _ | refine Ext.drew ?_ | refine Ext.drewN ?_ _ | refine Ext.trans ?_ (by assumption))⟩
  have he : gerr a b c d = 0 := by simp [gerr, hg]
  obtain ⟨⟨ga0, ga1⟩, ⟨gb0, gb1⟩, -⟩ := gok_e hg
  cases hh : gok a' b' c' d'
  · have hq : ∀ u v : Int, gok a' b' c' d' = true → 0 ≤ u ∧ u ≤ 100000000 ∧ 1 ≤ v ∧ v ≤ 100000000 := fun u v h => by rw [hh] at h; cases h
    have HQ := Lib.hid hq
    clear hq
    go_enter Try.func22, Try.ntmps22
    go_wp2_with (first | (go_at_call 18; refine (gcheck_any _ _ _ _ _).mono ?_; rintro e w1 ⟨rfl, hb1⟩; obtain ⟨hc1, hf1, hz1⟩ := hb1.facts) | (go_at_call 27; refine (scale_any _ _ _ _ _ _ _ _ _ _ (by omega) (HQ.out _ _)).mono ?_; rintro e w2 ⟨rfl, hb2⟩; obtain ⟨hc2, hf2, hz2⟩ := hb2.facts))
    go_ret2
    exact ⟨rfl, by repeat (first | exact Ext.refl _ | refine Ext.alloc ?_ _ | refine Ext.drew ?_ | refine Ext.drewN ?_ _ | refine Ext.trans ?_ (by assumption))⟩
  obtain ⟨⟨u0, u1⟩, ⟨v0, v1⟩, -⟩ := gok_e hh
  have p0 : 1 ≤ b * a' := Int.mul_pos (by omega) (by omega)
  have p1 : b * a' ≤ 10000 * 10000 := Int.mul_le_mul gb1 u1 (by omega) (by omega)
  have r0 : 1 ≤ a * b' := Int.mul_pos (by omega) (by omega)
  have r1 : a * b' ≤ 10000 * 10000 := Int.mul_le_mul ga1 v1 (by omega) (by omega)
  go_enter Try.func22, Try.ntmps22
  go_wp2_with (first | (go_at_call 18; refine (gcheck_any _ _ _ _ _).mono ?_; rintro e w1 ⟨rfl, hb1⟩; obtain ⟨hc1, hf1, hz1⟩ := hb1.facts) | (go_at_call 27; refine (scale_any _ _ _ _ _ _ _ _ _ _ (by omega) (fun _ => ⟨by omega, by omega, by omega, by omega⟩)).mono ?_; rintro e w2 ⟨rfl, hb2⟩; obtain ⟨hc2, hf2, hz2⟩ := hb2.facts))
  go_ret2
  exact ⟨rfl, by repeat (first | exact Ext.refl _ | refine Ext.alloc ?_ _ | refine Ext.drew ?_ | refine Ext.drewN ?_ _ | refine Ext.trans ?_ (by assumption))⟩

theorem rchange_any (a b c d a' b' c' d' n : Int) (w : World) :
    Calls Try.prog 23 #[.agg #[.int .i64 a, .int .i64 b, .int .i64 c, .int .i64 d], .agg #[.int .i64 a', .int .i64 b', .int .i64 c', .int .i64 d'], .int .i64 n] w
      fun e w' => e = .returned (.tuple #[.int .i64 (scaleG (gok a b c d && gok a' b' c' d') n 1000000 (near (n * (b * a')) (a * b')) 1000000).1, .int .i64 (scaleG (gok a b c d && gok a' b' c' d') n 1000000 (near (n * (b * a')) (a * b')) 1000000).2]) ∧ Ext w w' := by
  have hb : Ext ((w.alloc (.cells #[.int .i64 a, .int .i64 b, .int .i64 c, .int .i64 d] 23)).alloc (.cells #[.int .i64 a', .int .i64 b', .int .i64 c', .int .i64 d'] 23)) ((w.alloc (.cells #[.int .i64 a, .int .i64 b, .int .i64 c, .int .i64 d] 23)).alloc (.cells #[.int .i64 a', .int .i64 b', .int .i64 c', .int .i64 d'] 23)) := Ext.refl _
  cases hg : gok a b c d
  · have he : gerr a b c d = 8 := by simp [gerr, hg]
    go_enter Try.func23, Try.ntmps23
    go_wp2_with (go_at_call 19; refine (rcheck_any _ _ _ _ _).mono ?_; rintro e w1 ⟨rfl, hq⟩; replace hb := Ext.via hb hq (by repeat (first | exact Ext.refl _ | refine Ext.drew ?_ | refine Ext.drewN ?_ _ | refine Ext.alloc ?_ _)); clear hq; obtain ⟨hc, hf, hz⟩ := hb.facts)
    go_ret2
    exact ⟨rfl, by repeat (first | exact Ext.refl _ | refine Ext.alloc ?_ _ | refine Ext.drew ?_ | refine Ext.drewN ?_ _ | refine Ext.trans ?_ (by assumption))⟩
  have he : gerr a b c d = 0 := by simp [gerr, hg]
  obtain ⟨⟨ga0, ga1⟩, ⟨gb0, gb1⟩, -⟩ := gok_e hg
  cases hh : gok a' b' c' d'
  · have he' : gerr a' b' c' d' = 8 := by simp [gerr, hh]
    go_enter Try.func23, Try.ntmps23
    go_wp2_with (go_at_call 19; refine (rcheck_any _ _ _ _ _).mono ?_; rintro e w1 ⟨rfl, hq⟩; replace hb := Ext.via hb hq (by repeat (first | exact Ext.refl _ | refine Ext.drew ?_ | refine Ext.drewN ?_ _ | refine Ext.alloc ?_ _)); clear hq; obtain ⟨hc, hf, hz⟩ := hb.facts)
    go_ret2
    exact ⟨rfl, by repeat (first | exact Ext.refl _ | refine Ext.alloc ?_ _ | refine Ext.drew ?_ | refine Ext.drewN ?_ _ | refine Ext.trans ?_ (by assumption))⟩
  have he' : gerr a' b' c' d' = 0 := by simp [gerr, hh]
  obtain ⟨⟨u0, u1⟩, ⟨v0, v1⟩, -⟩ := gok_e hh
  have p0 : 1 ≤ b * a' := Int.mul_pos (by omega) (by omega)
  have p1 : b * a' ≤ 10000 * 10000 := Int.mul_le_mul gb1 u1 (by omega) (by omega)
  have r0 : 1 ≤ a * b' := Int.mul_pos (by omega) (by omega)
  have r1 : a * b' ≤ 10000 * 10000 := Int.mul_le_mul ga1 v1 (by omega) (by omega)
  go_enter Try.func23, Try.ntmps23
  go_wp2_with (first | (go_at_call 19; refine (rcheck_any _ _ _ _ _).mono ?_; rintro e w1 ⟨rfl, hq⟩; replace hb := Ext.via hb hq (by repeat (first | exact Ext.refl _ | refine Ext.drew ?_ | refine Ext.drewN ?_ _ | refine Ext.alloc ?_ _)); clear hq; obtain ⟨hc, hf, hz⟩ := hb.facts) | (go_at_call 28; refine (rscaled_any _ _ _ _ _ _ (by omega) (by omega) (by omega) (by omega) (by omega)).mono ?_; rintro e w2 ⟨rfl, rfl⟩))
  go_ret2
  exact ⟨rfl, by repeat (first | exact Ext.refl _ | refine Ext.alloc ?_ _ | refine Ext.drew ?_ | refine Ext.drewN ?_ _ | refine Ext.trans ?_ (by assumption))⟩

theorem ret_int {k : IntKind} {a b : Int} (h : a = b) : Ending.returned (.int k a) = .returned (.int k b) := by rw [h]

theorem away_any (a b c d width n : Int) (w : World) (h0 : 1 ≤ a) (h1 : a ≤ 10000) (h2 : 1 ≤ b) (h3 : b ≤ 10000) (h4 : 0 ≤ width) (h5 : width ≤ 1000000) (h6 : -1000000000 ≤ n) (h7 : n ≤ 1000000000) :
    Calls Try.prog 25 #[.agg #[.int .i64 a, .int .i64 b, .int .i64 c, .int .i64 d], .int .i64 width, .int .i64 n] w
      fun e w' => e = .returned (.int .i64 (away a b width n)) ∧ Ext w w' := by
  obtain ⟨p0, p1⟩ := prod_bd h4 h5 (show 0 ≤ a by omega) h1
  have q0 : n * b ≤ 10000000000000 := by
    have := Int.mul_le_mul h7 h3 (by omega) (by omega); omega
  have q1 : -10000000000000 ≤ n * b := by
    have := Int.mul_le_mul (show -n ≤ 1000000000 by omega) h3 (by omega) (by omega); rw [Int.neg_mul] at this; omega
  go_enter Try.func25, Try.ntmps25
  go_wp2
  all_goals
    go_ret
    exact ⟨ret_int (by unfold away; omega), by repeat (first | exact Ext.refl _ | refine Ext.alloc ?_ _ | refine Ext.drew ?_ | refine Ext.drewN ?_ _ | refine Ext.trans ?_ (by assumption))⟩

theorem away_hid (a b c d width n : Int) (w : World) (h0 : 1 ≤ a) (h1 : a ≤ 10000) (h2 : 1 ≤ b) (h3 : b ≤ 10000) (h4 : 0 ≤ width) (h5 : width ≤ 1000000) (h : Hid (-1000000000 ≤ n ∧ n ≤ 1000000000)) :
    Calls Try.prog 25 #[.agg #[.int .i64 a, .int .i64 b, .int .i64 c, .int .i64 d], .int .i64 width, .int .i64 n] w
      fun e w' => e = .returned (.int .i64 (away a b width n)) ∧ Ext w w' := away_any a b c d width n w h0 h1 h2 h3 h4 h5 h.1 h.2

set_option maxHeartbeats 1000000 in
theorem rfit_any (a b c d width every extra : Int) (w : World) :
    Calls Try.prog 21 #[.agg #[.int .i64 a, .int .i64 b, .int .i64 c, .int .i64 d], .int .i64 width, .int .i64 every, .int .i64 extra] w
      fun e w' => e = .returned (.tuple #[.int .i64 (fitG (gok a b c d) a b width every extra).1, .int .i64 (fitG (gok a b c d) a b width every extra).2]) ∧ Ext w w' := by
  have hb : Ext (w.alloc (.cells #[.int .i64 a, .int .i64 b, .int .i64 c, .int .i64 d] 23)) (w.alloc (.cells #[.int .i64 a, .int .i64 b, .int .i64 c, .int .i64 d] 23)) := Ext.refl _
  cases hg : gok a b c d
  · have he : gerr a b c d = 8 := by simp [gerr, hg]
    go_enter Try.func21, Try.ntmps21
    go_wp2_with (go_at_call 19; refine (rcheck_any _ _ _ _ _).mono ?_; rintro e w1 ⟨rfl, hq⟩; replace hb := Ext.via hb hq (by repeat (first | exact Ext.refl _ | refine Ext.drew ?_ | refine Ext.drewN ?_ _ | refine Ext.alloc ?_ _)); clear hq; obtain ⟨hc, hf, hz⟩ := hb.facts)
    go_ret2
    exact ⟨rfl, by repeat (first | exact Ext.refl _ | refine Ext.alloc ?_ _ | refine Ext.drew ?_ | refine Ext.drewN ?_ _ | refine Ext.trans ?_ (by assumption))⟩
  have he : gerr a b c d = 0 := by simp [gerr, hg]
  by_cases hr : inR width 0 1000000 && inR every 1 1000 && inR extra 0 1000
  case neg =>
    have hr' := Bool.not_eq_true _ ▸ hr
    have HF := Lib.hid (fitG_arg a b width every extra hr')
    have hd : width < 0 ∨ (0 ≤ width ∧ 1000000 < width) ∨ ((0 ≤ width ∧ width ≤ 1000000) ∧ every < 1) ∨ ((0 ≤ width ∧ width ≤ 1000000) ∧ 1 ≤ every ∧ 1000 < every) ∨
        ((0 ≤ width ∧ width ≤ 1000000) ∧ (1 ≤ every ∧ every ≤ 1000) ∧ extra < 0) ∨ ((0 ≤ width ∧ width ≤ 1000000) ∧ (1 ≤ every ∧ every ≤ 1000) ∧ 0 ≤ extra ∧ 1000 < extra) := by
      simp only [inR, Bool.and_eq_true, decide_eq_true_eq] at hr; omega
    clear hr hr'
    rcases hd with h | ⟨h1, h2⟩ | ⟨⟨h1, h2⟩, h3⟩ | ⟨⟨h1, h2⟩, h3, h4⟩ | ⟨⟨h1, h2⟩, ⟨h3, h4⟩, h5⟩ | ⟨⟨h1, h2⟩, ⟨h3, h4⟩, h5, h6⟩
    all_goals
      go_enter Try.func21, Try.ntmps21
      go_wp2_with (go_at_call 19; refine (rcheck_any _ _ _ _ _).mono ?_; rintro e w1 ⟨rfl, hq⟩; replace hb := Ext.via hb hq (by repeat (first | exact Ext.refl _ | refine Ext.drew ?_ | refine Ext.drewN ?_ _ | refine Ext.alloc ?_ _)); clear hq; obtain ⟨hc, hf, hz⟩ := hb.facts)
      go_ret2
      exact ⟨by rw [HF.out]; rfl, by repeat (first | exact Ext.refl _ | refine Ext.alloc ?_ _ | refine Ext.drew ?_ | refine Ext.drewN ?_ _ | refine Ext.trans ?_ (by assumption))⟩
  have HR := Lib.hid hr
  obtain ⟨⟨ga0, ga1⟩, ⟨gb0, gb1⟩, -⟩ := gok_e hg
  obtain ⟨⟨⟨x0, x1⟩, y0, y1⟩, z0, z1⟩ : ((0 ≤ width ∧ width ≤ 1000000) ∧ 1 ≤ every ∧ every ≤ 1000) ∧ 0 ≤ extra ∧ extra ≤ 1000 := by simpa [inR] using hr
  clear hr
  obtain ⟨p0, p1⟩ := prod_bd x0 x1 (show 0 ≤ a by omega) ga1
  have s0 : 1 ≤ every * b := Int.mul_pos (by omega) (by omega)
  go_enter Try.func21, Try.ntmps21
  go_wp2_with (go_at_call 19; refine (rcheck_any _ _ _ _ _).mono ?_; rintro e w1 ⟨rfl, hq⟩; replace hb := Ext.via hb hq (by repeat (first | exact Ext.refl _ | refine Ext.drew ?_ | refine Ext.drewN ?_ _ | refine Ext.alloc ?_ _)); clear hq; obtain ⟨hc, hf, hz⟩ := hb.facts)
  go_loop [10] (fun v => ∃ n : Int, v = .int .i64 n ∧ extra ≤ n ∧ n ≤ 1002000 ∧ Hid (∃ k, 0 ≤ k ∧ n = extra + every * k) ∧ (n = extra ∨ extra < n ∧ Hid ((n - every) * b < width * a))) (fun v => (1002000 - intOf v).toNat)
  case atStart => exact ⟨extra, rfl, by omega, by omega, ⟨0, by omega, by omega⟩, .inl rfl⟩
  case round =>
    obtain ⟨n, rfl, n0, n1, ⟨k, hk⟩, hpv⟩ := hrel
    have HK := Lib.hid hk
    have HP := Lib.hid hpv
    clear hk hpv
    obtain ⟨m0, m1⟩ := prod_bd (show 0 ≤ n by omega) n1 (show 0 ≤ b by omega) gb1
    by_cases hlt : n * b < width * a
    · by_cases hd : n ≤ 1001000
      · go_wp2
        go_round
        case rel => exact ⟨n + every, rfl, by omega, by omega, ⟨k + 1, by have := HK.out; omega, by have := HK.out; rw [Int.mul_add]; omega⟩, .inr ⟨by omega, by rw [show n + every - every = n by omega]; exact hlt⟩⟩
        case measure => simp [intOf]; omega
      · rcases HP.out with he1 | ⟨he1, he2⟩
        · omega
        · have hf := fit_far y0 s0 (show 1 ≤ k from pos_k he1 y0 HK.out.2) HK.out.2 he2
          have HF := Lib.hid (fitG_range HR.out (show 1000000 < fitN a b width every extra by omega))
          have HA1 := Lib.hid (show -1000000000 ≤ n - every ∧ n - every ≤ 1000000000 by omega)
          have HA2 := Lib.hid (show -1000000000 ≤ n ∧ n ≤ 1000000000 by omega)
          have hw1 := IntWalk.i64_in (n - every) (by omega)
          clear hf he2
          go_wp2_with fail
          go_region_held3 (fun w' => w'.cell? ⟨w.heap.size, 0, none⟩ = some (.int .i64 a) ∧ w'.cell? ⟨w.heap.size, 1, none⟩ = some (.int .i64 b) ∧ w'.cell? ⟨w.heap.size, 2, none⟩ = some (.int .i64 c) ∧ w'.cell? ⟨w.heap.size, 3, none⟩ = some (.int .i64 d)) (go_keep) ((first | (go_at_call 25; ((with_reducible refine (away_hid _ _ _ _ _ _ _ ga0 ga1 gb0 gb1 x0 x1 HA1).mono ?_); rintro e w2 ⟨rfl, hq⟩; replace hb := Ext.via hb hq (by repeat (first | exact Ext.refl _ | refine Ext.drew ?_ | refine Ext.drewN ?_ _ | refine Ext.alloc ?_ _)); clear hq; obtain ⟨hc, hf, hz⟩ := hb.facts)) | (go_at_call 25; ((with_reducible refine (away_hid _ _ _ _ _ _ _ ga0 ga1 gb0 gb1 x0 x1 HA2).mono ?_); rintro e w2 ⟨rfl, hq⟩; replace hb := Ext.via hb hq (by repeat (first | exact Ext.refl _ | refine Ext.drew ?_ | refine Ext.drewN ?_ _ | refine Ext.alloc ?_ _)); clear hq; obtain ⟨hc, hf, hz⟩ := hb.facts))))
          all_goals go_wp2
          all_goals
            go_ret2
            exact ⟨by rw [HF.out]; rfl, by repeat (first | exact Ext.refl _ | refine Ext.alloc ?_ _ | refine Ext.drew ?_ | refine Ext.drewN ?_ _ | refine Ext.trans ?_ (by assumption))⟩
    · rcases HP.out with he1 | ⟨he1, he2⟩
      · subst he1
        have hf := fit_none (every := every) hlt
        have HF := Lib.hid (fitG_ok HR.out (show ¬ 1000000 < fitN a b width every n by omega))
        have HN := Lib.hid hf
        clear hf
        go_wp2_with fail
        go_quiet (fail)
        go_wp2
        go_ret2
        exact ⟨by rw [HF.out, HN.out]; rfl, by repeat (first | exact Ext.refl _ | refine Ext.alloc ?_ _ | refine Ext.drew ?_ | refine Ext.drewN ?_ _ | refine Ext.trans ?_ (by assumption))⟩
      · have hf := (fit_core s0 (show 1 ≤ k from pos_k he1 y0 HK.out.2) HK.out.2 he2).2.2 hlt
        by_cases ha : away a b width (n - every) ≤ away a b width n
        · have hf1 := hf.1 ha
          by_cases hm : 1000000 < n - every
          · have HF := Lib.hid (fitG_range HR.out (show 1000000 < fitN a b width every extra by omega))
            clear hf1
            have HA1 := Lib.hid (show -1000000000 ≤ n - every ∧ n - every ≤ 1000000000 by omega)
            have HA2 := Lib.hid (show -1000000000 ≤ n ∧ n ≤ 1000000000 by omega)
            have hw1 := IntWalk.i64_in (n - every) (by omega)
            clear hf he2
            go_wp2_with fail
            go_region_held3 (fun w' => w'.cell? ⟨w.heap.size, 0, none⟩ = some (.int .i64 a) ∧ w'.cell? ⟨w.heap.size, 1, none⟩ = some (.int .i64 b) ∧ w'.cell? ⟨w.heap.size, 2, none⟩ = some (.int .i64 c) ∧ w'.cell? ⟨w.heap.size, 3, none⟩ = some (.int .i64 d)) (go_keep) ((first | (go_at_call 25; ((with_reducible refine (away_hid _ _ _ _ _ _ _ ga0 ga1 gb0 gb1 x0 x1 HA1).mono ?_); rintro e w2 ⟨rfl, hq⟩; replace hb := Ext.via hb hq (by repeat (first | exact Ext.refl _ | refine Ext.drew ?_ | refine Ext.drewN ?_ _ | refine Ext.alloc ?_ _)); clear hq; obtain ⟨hc, hf, hz⟩ := hb.facts)) | (go_at_call 25; ((with_reducible refine (away_hid _ _ _ _ _ _ _ ga0 ga1 gb0 gb1 x0 x1 HA2).mono ?_); rintro e w2 ⟨rfl, hq⟩; replace hb := Ext.via hb hq (by repeat (first | exact Ext.refl _ | refine Ext.drew ?_ | refine Ext.drewN ?_ _ | refine Ext.alloc ?_ _)); clear hq; obtain ⟨hc, hf, hz⟩ := hb.facts))))
            go_wp2
            go_ret2
            exact ⟨by rw [HF.out]; rfl, by repeat (first | exact Ext.refl _ | refine Ext.alloc ?_ _ | refine Ext.drew ?_ | refine Ext.drewN ?_ _ | refine Ext.trans ?_ (by assumption))⟩
          · have HF := Lib.hid (fitG_ok HR.out (show ¬ 1000000 < fitN a b width every extra by omega))
            have HN := Lib.hid hf1
            clear hf1
            have HA1 := Lib.hid (show -1000000000 ≤ n - every ∧ n - every ≤ 1000000000 by omega)
            have HA2 := Lib.hid (show -1000000000 ≤ n ∧ n ≤ 1000000000 by omega)
            have hw1 := IntWalk.i64_in (n - every) (by omega)
            clear hf he2
            go_wp2_with fail
            go_region_held3 (fun w' => w'.cell? ⟨w.heap.size, 0, none⟩ = some (.int .i64 a) ∧ w'.cell? ⟨w.heap.size, 1, none⟩ = some (.int .i64 b) ∧ w'.cell? ⟨w.heap.size, 2, none⟩ = some (.int .i64 c) ∧ w'.cell? ⟨w.heap.size, 3, none⟩ = some (.int .i64 d)) (go_keep) ((first | (go_at_call 25; ((with_reducible refine (away_hid _ _ _ _ _ _ _ ga0 ga1 gb0 gb1 x0 x1 HA1).mono ?_); rintro e w2 ⟨rfl, hq⟩; replace hb := Ext.via hb hq (by repeat (first | exact Ext.refl _ | refine Ext.drew ?_ | refine Ext.drewN ?_ _ | refine Ext.alloc ?_ _)); clear hq; obtain ⟨hc, hf, hz⟩ := hb.facts)) | (go_at_call 25; ((with_reducible refine (away_hid _ _ _ _ _ _ _ ga0 ga1 gb0 gb1 x0 x1 HA2).mono ?_); rintro e w2 ⟨rfl, hq⟩; replace hb := Ext.via hb hq (by repeat (first | exact Ext.refl _ | refine Ext.drew ?_ | refine Ext.drewN ?_ _ | refine Ext.alloc ?_ _)); clear hq; obtain ⟨hc, hf, hz⟩ := hb.facts))))
            go_wp2
            go_ret2
            exact ⟨by rw [HF.out, HN.out]; rfl, by repeat (first | exact Ext.refl _ | refine Ext.alloc ?_ _ | refine Ext.drew ?_ | refine Ext.drewN ?_ _ | refine Ext.trans ?_ (by assumption))⟩
        · have hf1 := hf.2 ha
          by_cases hm : 1000000 < n
          · have HF := Lib.hid (fitG_range HR.out (show 1000000 < fitN a b width every extra by omega))
            clear hf1
            have HA1 := Lib.hid (show -1000000000 ≤ n - every ∧ n - every ≤ 1000000000 by omega)
            have HA2 := Lib.hid (show -1000000000 ≤ n ∧ n ≤ 1000000000 by omega)
            have hw1 := IntWalk.i64_in (n - every) (by omega)
            clear hf he2
            go_wp2_with fail
            go_region_held3 (fun w' => w'.cell? ⟨w.heap.size, 0, none⟩ = some (.int .i64 a) ∧ w'.cell? ⟨w.heap.size, 1, none⟩ = some (.int .i64 b) ∧ w'.cell? ⟨w.heap.size, 2, none⟩ = some (.int .i64 c) ∧ w'.cell? ⟨w.heap.size, 3, none⟩ = some (.int .i64 d)) (go_keep) ((first | (go_at_call 25; ((with_reducible refine (away_hid _ _ _ _ _ _ _ ga0 ga1 gb0 gb1 x0 x1 HA1).mono ?_); rintro e w2 ⟨rfl, hq⟩; replace hb := Ext.via hb hq (by repeat (first | exact Ext.refl _ | refine Ext.drew ?_ | refine Ext.drewN ?_ _ | refine Ext.alloc ?_ _)); clear hq; obtain ⟨hc, hf, hz⟩ := hb.facts)) | (go_at_call 25; ((with_reducible refine (away_hid _ _ _ _ _ _ _ ga0 ga1 gb0 gb1 x0 x1 HA2).mono ?_); rintro e w2 ⟨rfl, hq⟩; replace hb := Ext.via hb hq (by repeat (first | exact Ext.refl _ | refine Ext.drew ?_ | refine Ext.drewN ?_ _ | refine Ext.alloc ?_ _)); clear hq; obtain ⟨hc, hf, hz⟩ := hb.facts))))
            go_wp2
            go_ret2
            exact ⟨by rw [HF.out]; rfl, by repeat (first | exact Ext.refl _ | refine Ext.alloc ?_ _ | refine Ext.drew ?_ | refine Ext.drewN ?_ _ | refine Ext.trans ?_ (by assumption))⟩
          · have HF := Lib.hid (fitG_ok HR.out (show ¬ 1000000 < fitN a b width every extra by omega))
            have HN := Lib.hid hf1
            clear hf1
            have HA1 := Lib.hid (show -1000000000 ≤ n - every ∧ n - every ≤ 1000000000 by omega)
            have HA2 := Lib.hid (show -1000000000 ≤ n ∧ n ≤ 1000000000 by omega)
            have hw1 := IntWalk.i64_in (n - every) (by omega)
            clear hf he2
            go_wp2_with fail
            go_region_held3 (fun w' => w'.cell? ⟨w.heap.size, 0, none⟩ = some (.int .i64 a) ∧ w'.cell? ⟨w.heap.size, 1, none⟩ = some (.int .i64 b) ∧ w'.cell? ⟨w.heap.size, 2, none⟩ = some (.int .i64 c) ∧ w'.cell? ⟨w.heap.size, 3, none⟩ = some (.int .i64 d)) (go_keep) ((first | (go_at_call 25; ((with_reducible refine (away_hid _ _ _ _ _ _ _ ga0 ga1 gb0 gb1 x0 x1 HA1).mono ?_); rintro e w2 ⟨rfl, hq⟩; replace hb := Ext.via hb hq (by repeat (first | exact Ext.refl _ | refine Ext.drew ?_ | refine Ext.drewN ?_ _ | refine Ext.alloc ?_ _)); clear hq; obtain ⟨hc, hf, hz⟩ := hb.facts)) | (go_at_call 25; ((with_reducible refine (away_hid _ _ _ _ _ _ _ ga0 ga1 gb0 gb1 x0 x1 HA2).mono ?_); rintro e w2 ⟨rfl, hq⟩; replace hb := Ext.via hb hq (by repeat (first | exact Ext.refl _ | refine Ext.drew ?_ | refine Ext.drewN ?_ _ | refine Ext.alloc ?_ _)); clear hq; obtain ⟨hc, hf, hz⟩ := hb.facts))))
            go_wp2
            go_ret2
            exact ⟨by rw [HF.out, HN.out]; rfl, by repeat (first | exact Ext.refl _ | refine Ext.alloc ?_ _ | refine Ext.drew ?_ | refine Ext.drewN ?_ _ | refine Ext.trans ?_ (by assumption))⟩
end Go.Proofs.Ytgcdbnhddjajbaa
