/- The contract of Check of stitch alone (for seats that lack sum and All). -/
import Derived.Test.YtgbmeefcnjdjbaaStitchA
namespace Go.Proofs.Ytgbmeefcnjdjbaa
set_option maxRecDepth 100000
open Go.RowKit

set_option maxHeartbeats 1000000 in
theorem check_any (k : Int) (p : Bool) (a b : Int) (h0 : 0 ≤ k) (h1 : k ≤ 255) (w : World) :
    Calls Try.prog 8 #[.agg #[.int .u8 k, .bool p, .int .i64 a, .int .i64 b]] w fun e w' => e = .returned (.int .i64 (okE ⟨k, p, a, b⟩)) ∧ Ext w w' := by
  cases hk : kindB k
  · have HE := Lib.hid (show okE ⟨k, p, a, b⟩ = 8 by simp [okE, okSt, hk])
    go_enter Try.func8, Try.ntmps8
    go_wp2_with (go_at_call 14; ((with_reducible refine (forms_no k h0 h1 hk _).mono ?_); rintro e w1 ⟨rfl, hq1⟩; unfold form0))
    go_ret
    exact ⟨by rw [HE.out]; rfl, by repeat (first | exact Ext.refl _ | assumption | refine Ext.alloc ?_ _ | refine Ext.drew ?_ | refine Ext.drewN ?_ _ | refine Ext.trans ?_ (by assumption))⟩
  cases ha : inR a (fa0 k) (fa1 k)
  · have HE := Lib.hid (show okE ⟨k, p, a, b⟩ = 8 by simp [okE, okSt, hk, ha])
    go_enter Try.func8, Try.ntmps8
    go_wp2_with (first | (go_at_call 14; ((with_reducible refine (forms_ok k hk _).mono ?_); rintro e w1 ⟨rfl, hq1⟩; unfold formV; obtain ⟨hf1, hf2, hf3⟩ := hq1.facts)) | (go_at_call 15; ((with_reducible refine (within_any a (fa0 k) (fa1 k) _).mono ?_); rintro e w2 ⟨rfl, hq2⟩; obtain ⟨hg1, hg2, hg3⟩ := hq2.facts; obtain ⟨hh1, hh2, hh3⟩ := (Ext.trans ((hq1.alloc _)) hq2).facts)))
    go_ret
    exact ⟨by rw [HE.out]; rfl, by repeat (first | exact Ext.refl _ | assumption | refine Ext.alloc ?_ _ | refine Ext.drew ?_ | refine Ext.drewN ?_ _ | refine Ext.trans ?_ (by assumption))⟩
  cases hb : inR b (fb0 k) (fb1 k)
  · have HE := Lib.hid (show okE ⟨k, p, a, b⟩ = 8 by simp [okE, okSt, hk, ha, hb])
    go_enter Try.func8, Try.ntmps8
    go_wp2_with (first | (go_at_call 14; ((with_reducible refine (forms_ok k hk _).mono ?_); rintro e w1 ⟨rfl, hq1⟩; unfold formV; obtain ⟨hf1, hf2, hf3⟩ := hq1.facts)) | (go_at_call 15; ((with_reducible refine (within_any a (fa0 k) (fa1 k) _).mono ?_); rintro e w2 ⟨rfl, hq2⟩; obtain ⟨hg1, hg2, hg3⟩ := hq2.facts; obtain ⟨hh1, hh2, hh3⟩ := (Ext.trans ((hq1.alloc _)) hq2).facts)) | (go_at_call 15; ((with_reducible refine (within_any b (fb0 k) (fb1 k) _).mono ?_); rintro e w3 ⟨rfl, hq3⟩; obtain ⟨hi1, hi2, hi3⟩ := (hq2.trans hq3).facts; obtain ⟨hj1, hj2, hj3⟩ := (Ext.trans (Ext.trans ((hq1.alloc _)) hq2) hq3).facts)))
    go_ret
    exact ⟨by rw [HE.out]; rfl, by repeat (first | exact Ext.refl _ | assumption | refine Ext.alloc ?_ _ | refine Ext.drew ?_ | refine Ext.drewN ?_ _ | refine Ext.trans ?_ (by assumption))⟩
  have HE := Lib.hid (show okE ⟨k, p, a, b⟩ = if (p && !fsd k) then 8 else 0 by cases p <;> cases e : fsd k <;> simp [okE, okSt, hk, ha, hb, e])
  cases p
  · go_enter Try.func8, Try.ntmps8
    go_wp2_with (first | (go_at_call 14; ((with_reducible refine (forms_ok k hk _).mono ?_); rintro e w1 ⟨rfl, hq1⟩; unfold formV; obtain ⟨hf1, hf2, hf3⟩ := hq1.facts)) | (go_at_call 15; ((with_reducible refine (within_any a (fa0 k) (fa1 k) _).mono ?_); rintro e w2 ⟨rfl, hq2⟩; obtain ⟨hg1, hg2, hg3⟩ := hq2.facts; obtain ⟨hh1, hh2, hh3⟩ := (Ext.trans ((hq1.alloc _)) hq2).facts)) | (go_at_call 15; ((with_reducible refine (within_any b (fb0 k) (fb1 k) _).mono ?_); rintro e w3 ⟨rfl, hq3⟩; obtain ⟨hi1, hi2, hi3⟩ := (hq2.trans hq3).facts; obtain ⟨hj1, hj2, hj3⟩ := (Ext.trans (Ext.trans ((hq1.alloc _)) hq2) hq3).facts)))
    go_ret
    exact ⟨by rw [HE.out]; rfl, by repeat (first | exact Ext.refl _ | assumption | refine Ext.alloc ?_ _ | refine Ext.drew ?_ | refine Ext.drewN ?_ _ | refine Ext.trans ?_ (by assumption))⟩
  cases hs : fsd k
  all_goals
    rw [hs] at HE
    go_enter Try.func8, Try.ntmps8
    go_wp2_with (first | (go_at_call 14; ((with_reducible refine (forms_ok k hk _).mono ?_); rintro e w1 ⟨rfl, hq1⟩; unfold formV; obtain ⟨hf1, hf2, hf3⟩ := hq1.facts)) | (go_at_call 15; ((with_reducible refine (within_any a (fa0 k) (fa1 k) _).mono ?_); rintro e w2 ⟨rfl, hq2⟩; obtain ⟨hg1, hg2, hg3⟩ := hq2.facts; obtain ⟨hh1, hh2, hh3⟩ := (Ext.trans ((hq1.alloc _)) hq2).facts)) | (go_at_call 15; ((with_reducible refine (within_any b (fb0 k) (fb1 k) _).mono ?_); rintro e w3 ⟨rfl, hq3⟩; obtain ⟨hi1, hi2, hi3⟩ := (hq2.trans hq3).facts; obtain ⟨hj1, hj2, hj3⟩ := (Ext.trans (Ext.trans ((hq1.alloc _)) hq2) hq3).facts)))
    go_ret
    exact ⟨by rw [HE.out]; rfl, by repeat (first | exact Ext.refl _ | assumption | refine Ext.alloc ?_ _ | refine Ext.drew ?_ | refine Ext.drewN ?_ _ | refine Ext.trans ?_ (by assumption))⟩
end Go.Proofs.Ytgbmeefcnjdjbaa
