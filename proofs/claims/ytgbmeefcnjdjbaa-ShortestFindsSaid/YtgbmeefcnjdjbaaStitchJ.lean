/- The contracts of the reference's Check and Same alone. -/
import Derived.Test.YtgbmeefcnjdjbaaStitchK
namespace Go.Proofs.Ytgbmeefcnjdjbaa
set_option maxRecDepth 100000
open Go.RowKit
set_option maxRecDepth 100000 in
set_option maxHeartbeats 8000000 in
theorem rcheck_any (k : Int) (p : Bool) (a b : Int) (w : World) :
    Calls Try.prog 10 #[.agg #[.int .u8 k, .bool p, .int .i64 a, .int .i64 b]] w fun e w' => e = .returned (.int .i64 (okE ⟨k, p, a, b⟩)) ∧ Ext w w' := by
  cases hk : kindB k
  · have HE := Lib.hid (show okE ⟨k, p, a, b⟩ = 8 by simp [okE, okSt, hk])
    have hk2 := inR_n hk
    have k1 : (k == 1) = false := by rw [beq_eq_false_iff_ne]; omega
    have k2 : (k == 2) = false := by rw [beq_eq_false_iff_ne]; omega
    have k3 : (k == 3) = false := by rw [beq_eq_false_iff_ne]; omega
    have k4 : (k == 4) = false := by rw [beq_eq_false_iff_ne]; omega
    have k5 : (k == 5) = false := by rw [beq_eq_false_iff_ne]; omega
    have k6 : (k == 6) = false := by rw [beq_eq_false_iff_ne]; omega
    have k7 : (k == 7) = false := by rw [beq_eq_false_iff_ne]; omega
    have k8 : (k == 8) = false := by rw [beq_eq_false_iff_ne]; omega
    have k9 : (k == 9) = false := by rw [beq_eq_false_iff_ne]; omega
    have k10 : (k == 10) = false := by rw [beq_eq_false_iff_ne]; omega
    clear hk hk2
    go_enter Try.func10, Try.ntmps10
    go_wp2
    all_goals (go_ret; exact ⟨by rw [HE.out]; rfl, by repeat (first | exact Ext.refl _ | assumption | refine Ext.alloc ?_ _ | refine Ext.drew ?_ | refine Ext.drewN ?_ _ | refine Ext.trans ?_ (by assumption))⟩)
  rcases kind_cases hk with e | e | e | e | e | e | e | e | e | e <;> subst e <;> clear hk
  · by_cases hg : (a = 0) ∧ (b = 0)
    · have HE := Lib.hid (show okE ⟨1, p, a, b⟩ = 0 by
        have : okSt ⟨1, p, a, b⟩ = true := by simp [okSt, kindB, inR, fa0, fa1, fb0, fb1, fsd]; first | omega | (simp_all; done) | (simp_all; omega)
        rw [okE, this]; rfl)
      obtain ⟨rfl, rfl⟩ := hg
      go_enter Try.func10, Try.ntmps10
      go_wp2
      all_goals (go_ret; exact ⟨by first | (rw [HE.out]; rfl) | (have h9 := HE.out; subst_vars; rw [h9]; rfl), by repeat (first | exact Ext.refl _ | assumption | refine Ext.alloc ?_ _ | refine Ext.drew ?_ | refine Ext.drewN ?_ _ | refine Ext.trans ?_ (by assumption))⟩)
    · have HE := Lib.hid (show okE ⟨1, p, a, b⟩ = 8 by
        have : okSt ⟨1, p, a, b⟩ = false := by
          cases e : okSt ⟨1, p, a, b⟩
          · rfl
          · exfalso
            apply hg
            simp [okSt, kindB, inR, fa0, fa1, fb0, fb1, fsd] at e
            first | omega | (simp_all; done) | (simp_all; omega)
        rw [okE, this]; rfl)
      have hg2 : (a ≠ 0) ∨ (b ≠ 0) := by first | omega | (cases p <;> simp at hg ⊢ <;> omega) | (by_cases hz : b = 0 <;> cases p <;> simp [hz] at hg ⊢ <;> omega)
      clear hg
      rcases hg2 with hb | hb
      · obtain hb := hb
        have hb1 : (a == 0) = false := beq_eq_false_iff_ne.2 hb
        clear hb
        go_enter Try.func10, Try.ntmps10
        go_wp2
        all_goals (go_ret; exact ⟨by first | (rw [HE.out]; rfl) | (have h9 := HE.out; subst_vars; rw [h9]; rfl), by repeat (first | exact Ext.refl _ | assumption | refine Ext.alloc ?_ _ | refine Ext.drew ?_ | refine Ext.drewN ?_ _ | refine Ext.trans ?_ (by assumption))⟩)
      · obtain hb := hb
        have hb1 : (b == 0) = false := beq_eq_false_iff_ne.2 hb
        clear hb
        go_enter Try.func10, Try.ntmps10
        go_wp2
        all_goals (go_ret; exact ⟨by first | (rw [HE.out]; rfl) | (have h9 := HE.out; subst_vars; rw [h9]; rfl), by repeat (first | exact Ext.refl _ | assumption | refine Ext.alloc ?_ _ | refine Ext.drew ?_ | refine Ext.drewN ?_ _ | refine Ext.trans ?_ (by assumption))⟩)
  · by_cases hg : (a = 0) ∧ (b = 0) ∧ (p = false)
    · have HE := Lib.hid (show okE ⟨2, p, a, b⟩ = 0 by
        have : okSt ⟨2, p, a, b⟩ = true := by simp [okSt, kindB, inR, fa0, fa1, fb0, fb1, fsd]; first | omega | (simp_all; done) | (simp_all; omega)
        rw [okE, this]; rfl)
      obtain ⟨rfl, rfl, rfl⟩ := hg
      go_enter Try.func10, Try.ntmps10
      go_wp2
      all_goals (go_ret; exact ⟨by first | (rw [HE.out]; rfl) | (have h9 := HE.out; subst_vars; rw [h9]; rfl), by repeat (first | exact Ext.refl _ | assumption | refine Ext.alloc ?_ _ | refine Ext.drew ?_ | refine Ext.drewN ?_ _ | refine Ext.trans ?_ (by assumption))⟩)
    · have HE := Lib.hid (show okE ⟨2, p, a, b⟩ = 8 by
        have : okSt ⟨2, p, a, b⟩ = false := by
          cases e : okSt ⟨2, p, a, b⟩
          · rfl
          · exfalso
            apply hg
            simp [okSt, kindB, inR, fa0, fa1, fb0, fb1, fsd] at e
            first | omega | (simp_all; done) | (simp_all; omega)
        rw [okE, this]; rfl)
      have hg2 : (a ≠ 0) ∨ (b ≠ 0) ∨ (p = true) := by first | omega | (cases p <;> simp at hg ⊢ <;> omega) | (by_cases hz : b = 0 <;> cases p <;> simp [hz] at hg ⊢ <;> omega)
      clear hg
      rcases hg2 with hb | hb | hb
      · obtain hb := hb
        have hb1 : (a == 0) = false := beq_eq_false_iff_ne.2 hb
        clear hb
        go_enter Try.func10, Try.ntmps10
        go_wp2
        all_goals (go_ret; exact ⟨by first | (rw [HE.out]; rfl) | (have h9 := HE.out; subst_vars; rw [h9]; rfl), by repeat (first | exact Ext.refl _ | assumption | refine Ext.alloc ?_ _ | refine Ext.drew ?_ | refine Ext.drewN ?_ _ | refine Ext.trans ?_ (by assumption))⟩)
      · obtain hb := hb
        have hb1 : (b == 0) = false := beq_eq_false_iff_ne.2 hb
        clear hb
        go_enter Try.func10, Try.ntmps10
        go_wp2
        all_goals (go_ret; exact ⟨by first | (rw [HE.out]; rfl) | (have h9 := HE.out; subst_vars; rw [h9]; rfl), by repeat (first | exact Ext.refl _ | assumption | refine Ext.alloc ?_ _ | refine Ext.drew ?_ | refine Ext.drewN ?_ _ | refine Ext.trans ?_ (by assumption))⟩)
      · obtain rfl := hb
        go_enter Try.func10, Try.ntmps10
        go_wp2
        all_goals (go_ret; exact ⟨by first | (rw [HE.out]; rfl) | (have h9 := HE.out; subst_vars; rw [h9]; rfl), by repeat (first | exact Ext.refl _ | assumption | refine Ext.alloc ?_ _ | refine Ext.drew ?_ | refine Ext.drewN ?_ _ | refine Ext.trans ?_ (by assumption))⟩)
  · by_cases hg : (b = 0) ∧ (2 ≤ a ∧ a ≤ 4)
    · have HE := Lib.hid (show okE ⟨3, p, a, b⟩ = 0 by
        have : okSt ⟨3, p, a, b⟩ = true := by simp [okSt, kindB, inR, fa0, fa1, fb0, fb1, fsd]; first | omega | (simp_all; done) | (simp_all; omega)
        rw [okE, this]; rfl)
      obtain ⟨rfl, ⟨h2, h3⟩⟩ := hg
      go_enter Try.func10, Try.ntmps10
      go_wp2
      all_goals (go_ret; exact ⟨by first | (rw [HE.out]; rfl) | (have h9 := HE.out; subst_vars; rw [h9]; rfl), by repeat (first | exact Ext.refl _ | assumption | refine Ext.alloc ?_ _ | refine Ext.drew ?_ | refine Ext.drewN ?_ _ | refine Ext.trans ?_ (by assumption))⟩)
    · have HE := Lib.hid (show okE ⟨3, p, a, b⟩ = 8 by
        have : okSt ⟨3, p, a, b⟩ = false := by
          cases e : okSt ⟨3, p, a, b⟩
          · rfl
          · exfalso
            apply hg
            simp [okSt, kindB, inR, fa0, fa1, fb0, fb1, fsd] at e
            first | omega | (simp_all; done) | (simp_all; omega)
        rw [okE, this]; rfl)
      have hg2 : (b ≠ 0) ∨ (b = 0 ∧ a < 2) ∨ (b = 0 ∧ 4 < a) := by first | omega | (cases p <;> simp at hg ⊢ <;> omega) | (by_cases hz : b = 0 <;> cases p <;> simp [hz] at hg ⊢ <;> omega)
      clear hg
      rcases hg2 with hb | hb | hb
      · obtain hb := hb
        have hb1 : (b == 0) = false := beq_eq_false_iff_ne.2 hb
        clear hb
        go_enter Try.func10, Try.ntmps10
        go_wp2
        all_goals (go_ret; exact ⟨by first | (rw [HE.out]; rfl) | (have h9 := HE.out; subst_vars; rw [h9]; rfl), by repeat (first | exact Ext.refl _ | assumption | refine Ext.alloc ?_ _ | refine Ext.drew ?_ | refine Ext.drewN ?_ _ | refine Ext.trans ?_ (by assumption))⟩)
      · obtain ⟨rfl, hb⟩ := hb
        have hd : decide (2 ≤ a) = false := by simp; omega
        go_enter Try.func10, Try.ntmps10
        go_wp2
        all_goals (go_ret; exact ⟨by first | (rw [HE.out]; rfl) | (have h9 := HE.out; subst_vars; rw [h9]; rfl), by repeat (first | exact Ext.refl _ | assumption | refine Ext.alloc ?_ _ | refine Ext.drew ?_ | refine Ext.drewN ?_ _ | refine Ext.trans ?_ (by assumption))⟩)
      · obtain ⟨rfl, hb⟩ := hb
        have hd : decide (a ≤ 4) = false := by simp; omega
        go_enter Try.func10, Try.ntmps10
        go_wp2
        all_goals (go_ret; exact ⟨by first | (rw [HE.out]; rfl) | (have h9 := HE.out; subst_vars; rw [h9]; rfl), by repeat (first | exact Ext.refl _ | assumption | refine Ext.alloc ?_ _ | refine Ext.drew ?_ | refine Ext.drewN ?_ _ | refine Ext.trans ?_ (by assumption))⟩)
  · by_cases hg : (b = 0) ∧ (2 ≤ a ∧ a ≤ 4)
    · have HE := Lib.hid (show okE ⟨4, p, a, b⟩ = 0 by
        have : okSt ⟨4, p, a, b⟩ = true := by simp [okSt, kindB, inR, fa0, fa1, fb0, fb1, fsd]; first | omega | (simp_all; done) | (simp_all; omega)
        rw [okE, this]; rfl)
      obtain ⟨rfl, ⟨h2, h3⟩⟩ := hg
      go_enter Try.func10, Try.ntmps10
      go_wp2
      all_goals (go_ret; exact ⟨by first | (rw [HE.out]; rfl) | (have h9 := HE.out; subst_vars; rw [h9]; rfl), by repeat (first | exact Ext.refl _ | assumption | refine Ext.alloc ?_ _ | refine Ext.drew ?_ | refine Ext.drewN ?_ _ | refine Ext.trans ?_ (by assumption))⟩)
    · have HE := Lib.hid (show okE ⟨4, p, a, b⟩ = 8 by
        have : okSt ⟨4, p, a, b⟩ = false := by
          cases e : okSt ⟨4, p, a, b⟩
          · rfl
          · exfalso
            apply hg
            simp [okSt, kindB, inR, fa0, fa1, fb0, fb1, fsd] at e
            first | omega | (simp_all; done) | (simp_all; omega)
        rw [okE, this]; rfl)
      have hg2 : (b ≠ 0) ∨ (b = 0 ∧ a < 2) ∨ (b = 0 ∧ 4 < a) := by first | omega | (cases p <;> simp at hg ⊢ <;> omega) | (by_cases hz : b = 0 <;> cases p <;> simp [hz] at hg ⊢ <;> omega)
      clear hg
      rcases hg2 with hb | hb | hb
      · obtain hb := hb
        have hb1 : (b == 0) = false := beq_eq_false_iff_ne.2 hb
        clear hb
        go_enter Try.func10, Try.ntmps10
        go_wp2
        all_goals (go_ret; exact ⟨by first | (rw [HE.out]; rfl) | (have h9 := HE.out; subst_vars; rw [h9]; rfl), by repeat (first | exact Ext.refl _ | assumption | refine Ext.alloc ?_ _ | refine Ext.drew ?_ | refine Ext.drewN ?_ _ | refine Ext.trans ?_ (by assumption))⟩)
      · obtain ⟨rfl, hb⟩ := hb
        have hd : decide (2 ≤ a) = false := by simp; omega
        go_enter Try.func10, Try.ntmps10
        go_wp2
        all_goals (go_ret; exact ⟨by first | (rw [HE.out]; rfl) | (have h9 := HE.out; subst_vars; rw [h9]; rfl), by repeat (first | exact Ext.refl _ | assumption | refine Ext.alloc ?_ _ | refine Ext.drew ?_ | refine Ext.drewN ?_ _ | refine Ext.trans ?_ (by assumption))⟩)
      · obtain ⟨rfl, hb⟩ := hb
        have hd : decide (a ≤ 4) = false := by simp; omega
        go_enter Try.func10, Try.ntmps10
        go_wp2
        all_goals (go_ret; exact ⟨by first | (rw [HE.out]; rfl) | (have h9 := HE.out; subst_vars; rw [h9]; rfl), by repeat (first | exact Ext.refl _ | assumption | refine Ext.alloc ?_ _ | refine Ext.drew ?_ | refine Ext.drewN ?_ _ | refine Ext.trans ?_ (by assumption))⟩)
  · by_cases hg : (b = 0) ∧ (2 ≤ a ∧ a ≤ 4)
    · have HE := Lib.hid (show okE ⟨5, p, a, b⟩ = 0 by
        have : okSt ⟨5, p, a, b⟩ = true := by simp [okSt, kindB, inR, fa0, fa1, fb0, fb1, fsd]; first | omega | (simp_all; done) | (simp_all; omega)
        rw [okE, this]; rfl)
      obtain ⟨rfl, ⟨h2, h3⟩⟩ := hg
      go_enter Try.func10, Try.ntmps10
      go_wp2
      all_goals (go_ret; exact ⟨by first | (rw [HE.out]; rfl) | (have h9 := HE.out; subst_vars; rw [h9]; rfl), by repeat (first | exact Ext.refl _ | assumption | refine Ext.alloc ?_ _ | refine Ext.drew ?_ | refine Ext.drewN ?_ _ | refine Ext.trans ?_ (by assumption))⟩)
    · have HE := Lib.hid (show okE ⟨5, p, a, b⟩ = 8 by
        have : okSt ⟨5, p, a, b⟩ = false := by
          cases e : okSt ⟨5, p, a, b⟩
          · rfl
          · exfalso
            apply hg
            simp [okSt, kindB, inR, fa0, fa1, fb0, fb1, fsd] at e
            first | omega | (simp_all; done) | (simp_all; omega)
        rw [okE, this]; rfl)
      have hg2 : (b ≠ 0) ∨ (b = 0 ∧ a < 2) ∨ (b = 0 ∧ 4 < a) := by first | omega | (cases p <;> simp at hg ⊢ <;> omega) | (by_cases hz : b = 0 <;> cases p <;> simp [hz] at hg ⊢ <;> omega)
      clear hg
      rcases hg2 with hb | hb | hb
      · obtain hb := hb
        have hb1 : (b == 0) = false := beq_eq_false_iff_ne.2 hb
        clear hb
        go_enter Try.func10, Try.ntmps10
        go_wp2
        all_goals (go_ret; exact ⟨by first | (rw [HE.out]; rfl) | (have h9 := HE.out; subst_vars; rw [h9]; rfl), by repeat (first | exact Ext.refl _ | assumption | refine Ext.alloc ?_ _ | refine Ext.drew ?_ | refine Ext.drewN ?_ _ | refine Ext.trans ?_ (by assumption))⟩)
      · obtain ⟨rfl, hb⟩ := hb
        have hd : decide (2 ≤ a) = false := by simp; omega
        go_enter Try.func10, Try.ntmps10
        go_wp2
        all_goals (go_ret; exact ⟨by first | (rw [HE.out]; rfl) | (have h9 := HE.out; subst_vars; rw [h9]; rfl), by repeat (first | exact Ext.refl _ | assumption | refine Ext.alloc ?_ _ | refine Ext.drew ?_ | refine Ext.drewN ?_ _ | refine Ext.trans ?_ (by assumption))⟩)
      · obtain ⟨rfl, hb⟩ := hb
        have hd : decide (a ≤ 4) = false := by simp; omega
        go_enter Try.func10, Try.ntmps10
        go_wp2
        all_goals (go_ret; exact ⟨by first | (rw [HE.out]; rfl) | (have h9 := HE.out; subst_vars; rw [h9]; rfl), by repeat (first | exact Ext.refl _ | assumption | refine Ext.alloc ?_ _ | refine Ext.drew ?_ | refine Ext.drewN ?_ _ | refine Ext.trans ?_ (by assumption))⟩)
  · by_cases hg : (1 ≤ a ∧ a ≤ 6) ∧ (1 ≤ b ∧ b ≤ 6)
    · have HE := Lib.hid (show okE ⟨6, p, a, b⟩ = 0 by
        have : okSt ⟨6, p, a, b⟩ = true := by simp [okSt, kindB, inR, fa0, fa1, fb0, fb1, fsd]; first | omega | (simp_all; done) | (simp_all; omega)
        rw [okE, this]; rfl)
      obtain ⟨⟨h0, h1⟩, ⟨h2, h3⟩⟩ := hg
      go_enter Try.func10, Try.ntmps10
      go_wp2
      all_goals (go_ret; exact ⟨by first | (rw [HE.out]; rfl) | (have h9 := HE.out; subst_vars; rw [h9]; rfl), by repeat (first | exact Ext.refl _ | assumption | refine Ext.alloc ?_ _ | refine Ext.drew ?_ | refine Ext.drewN ?_ _ | refine Ext.trans ?_ (by assumption))⟩)
    · have HE := Lib.hid (show okE ⟨6, p, a, b⟩ = 8 by
        have : okSt ⟨6, p, a, b⟩ = false := by
          cases e : okSt ⟨6, p, a, b⟩
          · rfl
          · exfalso
            apply hg
            simp [okSt, kindB, inR, fa0, fa1, fb0, fb1, fsd] at e
            first | omega | (simp_all; done) | (simp_all; omega)
        rw [okE, this]; rfl)
      have hg2 : (a < 1) ∨ (6 < a) ∨ (b < 1) ∨ (6 < b) := by first | omega | (cases p <;> simp at hg ⊢ <;> omega) | (by_cases hz : b = 0 <;> cases p <;> simp [hz] at hg ⊢ <;> omega)
      clear hg
      rcases hg2 with hb | hb | hb | hb
      · obtain hb := hb
        have hd : decide (1 ≤ a) = false := by simp; omega
        go_enter Try.func10, Try.ntmps10
        go_wp2
        all_goals (go_ret; exact ⟨by first | (rw [HE.out]; rfl) | (have h9 := HE.out; subst_vars; rw [h9]; rfl), by repeat (first | exact Ext.refl _ | assumption | refine Ext.alloc ?_ _ | refine Ext.drew ?_ | refine Ext.drewN ?_ _ | refine Ext.trans ?_ (by assumption))⟩)
      · obtain hb := hb
        have hd : decide (a ≤ 6) = false := by simp; omega
        go_enter Try.func10, Try.ntmps10
        go_wp2
        all_goals (go_ret; exact ⟨by first | (rw [HE.out]; rfl) | (have h9 := HE.out; subst_vars; rw [h9]; rfl), by repeat (first | exact Ext.refl _ | assumption | refine Ext.alloc ?_ _ | refine Ext.drew ?_ | refine Ext.drewN ?_ _ | refine Ext.trans ?_ (by assumption))⟩)
      · obtain hb := hb
        have hd : decide (1 ≤ b) = false := by simp; omega
        go_enter Try.func10, Try.ntmps10
        go_wp2
        all_goals (go_ret; exact ⟨by first | (rw [HE.out]; rfl) | (have h9 := HE.out; subst_vars; rw [h9]; rfl), by repeat (first | exact Ext.refl _ | assumption | refine Ext.alloc ?_ _ | refine Ext.drew ?_ | refine Ext.drewN ?_ _ | refine Ext.trans ?_ (by assumption))⟩)
      · obtain hb := hb
        have hd : decide (b ≤ 6) = false := by simp; omega
        go_enter Try.func10, Try.ntmps10
        go_wp2
        all_goals (go_ret; exact ⟨by first | (rw [HE.out]; rfl) | (have h9 := HE.out; subst_vars; rw [h9]; rfl), by repeat (first | exact Ext.refl _ | assumption | refine Ext.alloc ?_ _ | refine Ext.drew ?_ | refine Ext.drewN ?_ _ | refine Ext.trans ?_ (by assumption))⟩)
  · by_cases hg : (1 ≤ a ∧ a ≤ 6) ∧ (1 ≤ b ∧ b ≤ 6)
    · have HE := Lib.hid (show okE ⟨7, p, a, b⟩ = 0 by
        have : okSt ⟨7, p, a, b⟩ = true := by simp [okSt, kindB, inR, fa0, fa1, fb0, fb1, fsd]; first | omega | (simp_all; done) | (simp_all; omega)
        rw [okE, this]; rfl)
      obtain ⟨⟨h0, h1⟩, ⟨h2, h3⟩⟩ := hg
      go_enter Try.func10, Try.ntmps10
      go_wp2
      all_goals (go_ret; exact ⟨by first | (rw [HE.out]; rfl) | (have h9 := HE.out; subst_vars; rw [h9]; rfl), by repeat (first | exact Ext.refl _ | assumption | refine Ext.alloc ?_ _ | refine Ext.drew ?_ | refine Ext.drewN ?_ _ | refine Ext.trans ?_ (by assumption))⟩)
    · have HE := Lib.hid (show okE ⟨7, p, a, b⟩ = 8 by
        have : okSt ⟨7, p, a, b⟩ = false := by
          cases e : okSt ⟨7, p, a, b⟩
          · rfl
          · exfalso
            apply hg
            simp [okSt, kindB, inR, fa0, fa1, fb0, fb1, fsd] at e
            first | omega | (simp_all; done) | (simp_all; omega)
        rw [okE, this]; rfl)
      have hg2 : (a < 1) ∨ (6 < a) ∨ (b < 1) ∨ (6 < b) := by first | omega | (cases p <;> simp at hg ⊢ <;> omega) | (by_cases hz : b = 0 <;> cases p <;> simp [hz] at hg ⊢ <;> omega)
      clear hg
      rcases hg2 with hb | hb | hb | hb
      · obtain hb := hb
        have hd : decide (1 ≤ a) = false := by simp; omega
        go_enter Try.func10, Try.ntmps10
        go_wp2
        all_goals (go_ret; exact ⟨by first | (rw [HE.out]; rfl) | (have h9 := HE.out; subst_vars; rw [h9]; rfl), by repeat (first | exact Ext.refl _ | assumption | refine Ext.alloc ?_ _ | refine Ext.drew ?_ | refine Ext.drewN ?_ _ | refine Ext.trans ?_ (by assumption))⟩)
      · obtain hb := hb
        have hd : decide (a ≤ 6) = false := by simp; omega
        go_enter Try.func10, Try.ntmps10
        go_wp2
        all_goals (go_ret; exact ⟨by first | (rw [HE.out]; rfl) | (have h9 := HE.out; subst_vars; rw [h9]; rfl), by repeat (first | exact Ext.refl _ | assumption | refine Ext.alloc ?_ _ | refine Ext.drew ?_ | refine Ext.drewN ?_ _ | refine Ext.trans ?_ (by assumption))⟩)
      · obtain hb := hb
        have hd : decide (1 ≤ b) = false := by simp; omega
        go_enter Try.func10, Try.ntmps10
        go_wp2
        all_goals (go_ret; exact ⟨by first | (rw [HE.out]; rfl) | (have h9 := HE.out; subst_vars; rw [h9]; rfl), by repeat (first | exact Ext.refl _ | assumption | refine Ext.alloc ?_ _ | refine Ext.drew ?_ | refine Ext.drewN ?_ _ | refine Ext.trans ?_ (by assumption))⟩)
      · obtain hb := hb
        have hd : decide (b ≤ 6) = false := by simp; omega
        go_enter Try.func10, Try.ntmps10
        go_wp2
        all_goals (go_ret; exact ⟨by first | (rw [HE.out]; rfl) | (have h9 := HE.out; subst_vars; rw [h9]; rfl), by repeat (first | exact Ext.refl _ | assumption | refine Ext.alloc ?_ _ | refine Ext.drew ?_ | refine Ext.drewN ?_ _ | refine Ext.trans ?_ (by assumption))⟩)
  · by_cases hg : (a = 0) ∧ (b = 0)
    · have HE := Lib.hid (show okE ⟨8, p, a, b⟩ = 0 by
        have : okSt ⟨8, p, a, b⟩ = true := by simp [okSt, kindB, inR, fa0, fa1, fb0, fb1, fsd]; first | omega | (simp_all; done) | (simp_all; omega)
        rw [okE, this]; rfl)
      obtain ⟨rfl, rfl⟩ := hg
      go_enter Try.func10, Try.ntmps10
      go_wp2
      all_goals (go_ret; exact ⟨by first | (rw [HE.out]; rfl) | (have h9 := HE.out; subst_vars; rw [h9]; rfl), by repeat (first | exact Ext.refl _ | assumption | refine Ext.alloc ?_ _ | refine Ext.drew ?_ | refine Ext.drewN ?_ _ | refine Ext.trans ?_ (by assumption))⟩)
    · have HE := Lib.hid (show okE ⟨8, p, a, b⟩ = 8 by
        have : okSt ⟨8, p, a, b⟩ = false := by
          cases e : okSt ⟨8, p, a, b⟩
          · rfl
          · exfalso
            apply hg
            simp [okSt, kindB, inR, fa0, fa1, fb0, fb1, fsd] at e
            first | omega | (simp_all; done) | (simp_all; omega)
        rw [okE, this]; rfl)
      have hg2 : (a ≠ 0) ∨ (b ≠ 0) := by first | omega | (cases p <;> simp at hg ⊢ <;> omega) | (by_cases hz : b = 0 <;> cases p <;> simp [hz] at hg ⊢ <;> omega)
      clear hg
      rcases hg2 with hb | hb
      · obtain hb := hb
        have hb1 : (a == 0) = false := beq_eq_false_iff_ne.2 hb
        clear hb
        go_enter Try.func10, Try.ntmps10
        go_wp2
        all_goals (go_ret; exact ⟨by first | (rw [HE.out]; rfl) | (have h9 := HE.out; subst_vars; rw [h9]; rfl), by repeat (first | exact Ext.refl _ | assumption | refine Ext.alloc ?_ _ | refine Ext.drew ?_ | refine Ext.drewN ?_ _ | refine Ext.trans ?_ (by assumption))⟩)
      · obtain hb := hb
        have hb1 : (b == 0) = false := beq_eq_false_iff_ne.2 hb
        clear hb
        go_enter Try.func10, Try.ntmps10
        go_wp2
        all_goals (go_ret; exact ⟨by first | (rw [HE.out]; rfl) | (have h9 := HE.out; subst_vars; rw [h9]; rfl), by repeat (first | exact Ext.refl _ | assumption | refine Ext.alloc ?_ _ | refine Ext.drew ?_ | refine Ext.drewN ?_ _ | refine Ext.trans ?_ (by assumption))⟩)
  · by_cases hg : (b = 0) ∧ (p = false) ∧ (1 ≤ a ∧ a ≤ 200)
    · have HE := Lib.hid (show okE ⟨9, p, a, b⟩ = 0 by
        have : okSt ⟨9, p, a, b⟩ = true := by simp [okSt, kindB, inR, fa0, fa1, fb0, fb1, fsd]; first | omega | (simp_all; done) | (simp_all; omega)
        rw [okE, this]; rfl)
      obtain ⟨rfl, rfl, ⟨h4, h5⟩⟩ := hg
      go_enter Try.func10, Try.ntmps10
      go_wp2
      all_goals (go_ret; exact ⟨by first | (rw [HE.out]; rfl) | (have h9 := HE.out; subst_vars; rw [h9]; rfl), by repeat (first | exact Ext.refl _ | assumption | refine Ext.alloc ?_ _ | refine Ext.drew ?_ | refine Ext.drewN ?_ _ | refine Ext.trans ?_ (by assumption))⟩)
    · have HE := Lib.hid (show okE ⟨9, p, a, b⟩ = 8 by
        have : okSt ⟨9, p, a, b⟩ = false := by
          cases e : okSt ⟨9, p, a, b⟩
          · rfl
          · exfalso
            apply hg
            simp [okSt, kindB, inR, fa0, fa1, fb0, fb1, fsd] at e
            first | omega | (simp_all; done) | (simp_all; omega)
        rw [okE, this]; rfl)
      have hg2 : (b ≠ 0) ∨ (b = 0 ∧ p = true) ∨ (b = 0 ∧ p = false ∧ a < 1) ∨ (b = 0 ∧ p = false ∧ 200 < a) := by first | omega | (cases p <;> simp at hg ⊢ <;> omega) | (by_cases hz : b = 0 <;> cases p <;> simp [hz] at hg ⊢ <;> omega)
      clear hg
      rcases hg2 with hb | hb | hb | hb
      · obtain hb := hb
        have hb1 : (b == 0) = false := beq_eq_false_iff_ne.2 hb
        clear hb
        go_enter Try.func10, Try.ntmps10
        go_wp2
        all_goals (go_ret; exact ⟨by first | (rw [HE.out]; rfl) | (have h9 := HE.out; subst_vars; rw [h9]; rfl), by repeat (first | exact Ext.refl _ | assumption | refine Ext.alloc ?_ _ | refine Ext.drew ?_ | refine Ext.drewN ?_ _ | refine Ext.trans ?_ (by assumption))⟩)
      · obtain ⟨rfl, rfl⟩ := hb
        go_enter Try.func10, Try.ntmps10
        go_wp2
        all_goals (go_ret; exact ⟨by first | (rw [HE.out]; rfl) | (have h9 := HE.out; subst_vars; rw [h9]; rfl), by repeat (first | exact Ext.refl _ | assumption | refine Ext.alloc ?_ _ | refine Ext.drew ?_ | refine Ext.drewN ?_ _ | refine Ext.trans ?_ (by assumption))⟩)
      · obtain ⟨rfl, rfl, hb⟩ := hb
        have hd : decide (1 ≤ a) = false := by simp; omega
        go_enter Try.func10, Try.ntmps10
        go_wp2
        all_goals (go_ret; exact ⟨by first | (rw [HE.out]; rfl) | (have h9 := HE.out; subst_vars; rw [h9]; rfl), by repeat (first | exact Ext.refl _ | assumption | refine Ext.alloc ?_ _ | refine Ext.drew ?_ | refine Ext.drewN ?_ _ | refine Ext.trans ?_ (by assumption))⟩)
      · obtain ⟨rfl, rfl, hb⟩ := hb
        have hd : decide (a ≤ 200) = false := by simp; omega
        go_enter Try.func10, Try.ntmps10
        go_wp2
        all_goals (go_ret; exact ⟨by first | (rw [HE.out]; rfl) | (have h9 := HE.out; subst_vars; rw [h9]; rfl), by repeat (first | exact Ext.refl _ | assumption | refine Ext.alloc ?_ _ | refine Ext.drew ?_ | refine Ext.drewN ?_ _ | refine Ext.trans ?_ (by assumption))⟩)
  · by_cases hg : (b = 0) ∧ (1 ≤ a ∧ a ≤ 200)
    · have HE := Lib.hid (show okE ⟨10, p, a, b⟩ = 0 by
        have : okSt ⟨10, p, a, b⟩ = true := by simp [okSt, kindB, inR, fa0, fa1, fb0, fb1, fsd]; first | omega | (simp_all; done) | (simp_all; omega)
        rw [okE, this]; rfl)
      obtain ⟨rfl, ⟨h2, h3⟩⟩ := hg
      go_enter Try.func10, Try.ntmps10
      go_wp2
      all_goals (go_ret; exact ⟨by first | (rw [HE.out]; rfl) | (have h9 := HE.out; subst_vars; rw [h9]; rfl), by repeat (first | exact Ext.refl _ | assumption | refine Ext.alloc ?_ _ | refine Ext.drew ?_ | refine Ext.drewN ?_ _ | refine Ext.trans ?_ (by assumption))⟩)
    · have HE := Lib.hid (show okE ⟨10, p, a, b⟩ = 8 by
        have : okSt ⟨10, p, a, b⟩ = false := by
          cases e : okSt ⟨10, p, a, b⟩
          · rfl
          · exfalso
            apply hg
            simp [okSt, kindB, inR, fa0, fa1, fb0, fb1, fsd] at e
            first | omega | (simp_all; done) | (simp_all; omega)
        rw [okE, this]; rfl)
      have hg2 : (b ≠ 0) ∨ (b = 0 ∧ a < 1) ∨ (b = 0 ∧ 200 < a) := by first | omega | (cases p <;> simp at hg ⊢ <;> omega) | (by_cases hz : b = 0 <;> cases p <;> simp [hz] at hg ⊢ <;> omega)
      clear hg
      rcases hg2 with hb | hb | hb
      · obtain hb := hb
        have hb1 : (b == 0) = false := beq_eq_false_iff_ne.2 hb
        clear hb
        go_enter Try.func10, Try.ntmps10
        go_wp2
        all_goals (go_ret; exact ⟨by first | (rw [HE.out]; rfl) | (have h9 := HE.out; subst_vars; rw [h9]; rfl), by repeat (first | exact Ext.refl _ | assumption | refine Ext.alloc ?_ _ | refine Ext.drew ?_ | refine Ext.drewN ?_ _ | refine Ext.trans ?_ (by assumption))⟩)
      · obtain ⟨rfl, hb⟩ := hb
        have hd : decide (1 ≤ a) = false := by simp; omega
        go_enter Try.func10, Try.ntmps10
        go_wp2
        all_goals (go_ret; exact ⟨by first | (rw [HE.out]; rfl) | (have h9 := HE.out; subst_vars; rw [h9]; rfl), by repeat (first | exact Ext.refl _ | assumption | refine Ext.alloc ?_ _ | refine Ext.drew ?_ | refine Ext.drewN ?_ _ | refine Ext.trans ?_ (by assumption))⟩)
      · obtain ⟨rfl, hb⟩ := hb
        have hd : decide (a ≤ 200) = false := by simp; omega
        go_enter Try.func10, Try.ntmps10
        go_wp2
        all_goals (go_ret; exact ⟨by first | (rw [HE.out]; rfl) | (have h9 := HE.out; subst_vars; rw [h9]; rfl), by repeat (first | exact Ext.refl _ | assumption | refine Ext.alloc ?_ _ | refine Ext.drew ?_ | refine Ext.drewN ?_ _ | refine Ext.trans ?_ (by assumption))⟩)

attribute [local go_sem] run_equalIn_st
end Go.Proofs.Ytgbmeefcnjdjbaa
