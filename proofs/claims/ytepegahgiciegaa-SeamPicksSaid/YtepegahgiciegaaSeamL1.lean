/- Need, Pick and Rate return what the reference returns, for any gauge and numbers. -/
import Derived.Test.YtepegahgiciegaaSeamD
import Derived.Test.YtepegahgiciegaaOpenInts
import Derived.Test.YtepegahgiciegaaOpenGauge
namespace Go.Proofs.Ytepegahgiciegaa
open Go.ChangeShapes Go.WideShapes Go.ChangeAt Go.RowKit Go.Joins

theorem pickL_len (rows n : Int) : (pickL rows n).length ≤ maxLen := by
  unfold pickL maxLen; split
  · rename_i h
    have := edOk_e h
    rw [List.length_map, List.length_range]; omega
  · simp
set_option maxRecDepth 100000 in
set_option maxHeartbeats 4000000 in
theorem seamPicks_walk (a b c d rows n : Int) (w : World) :
    Calls Try.prog 3 #[.agg #[.int .i64 a, .int .i64 b, .int .i64 c, .int .i64 d], .int .i64 rows, .int .i64 n] w fun e w' => e = .returned (.bool true) ∧ Ext w w' := by
  have HLN7 := Lib.hid (pickL_len rows n)
  go_enter Try.func3, Try.ntmps3
  go_wp2_with (first | (go_at_call 10; ((with_reducible refine (need_any _ _ _ _ _ _).mono ?_); rintro e w1 ⟨rfl, hq1⟩; obtain ⟨hf1, hf2, hf3⟩ := hq1.facts)) | (go_at_call 11; ((with_reducible refine (rneed_any _ _ _ _ _ _).mono ?_); rintro e w2 ⟨rfl, hq2⟩)) | (go_at_call 12; ((with_reducible refine (pick_any _ _ _).mono ?_); rintro e w3 ⟨A3, c3, rfl, hi3, hq3⟩)) | (go_at_call 13; ((with_reducible refine (rpick_any _ _ _).mono ?_); rintro e w4 ⟨A4, c4, rfl, hi4, hq4⟩)) | (go_at_call 14; ((with_reducible refine (rate_any _ _ _).mono ?_); rintro e w5 ⟨rfl, hq5⟩)) | (go_at_call 15; ((with_reducible refine (rrate_any _ _ _).mono ?_); rintro e w6 ⟨rfl, hq6⟩)) | (go_at_call 16; ((with_reducible refine (same_any _ _ _ _ A3 A4 (pickL rows n) (pickL rows n) _ ?_ ?_ ?_).mono ?_); (focus (refine Ints.ext hi3 ?_; repeat (first | exact Ext.refl _ | assumption | refine Ext.alloc ?_ _ | refine Ext.drew ?_ | refine Ext.drewN ?_ _ | refine Ext.trans ?_ (by assumption)))); (focus (refine Ints.ext hi4 ?_; repeat (first | exact Ext.refl _ | assumption | refine Ext.alloc ?_ _ | refine Ext.drew ?_ | refine Ext.drewN ?_ _ | refine Ext.trans ?_ (by assumption)))); (focus (exact HLN7.out)); rintro e w7 ⟨rfl, hq7⟩; rw [decide_eq_true (rfl : (pickL rows n) = (pickL rows n))])))
  go_ret
  exact ⟨rfl, by repeat (first | exact Ext.refl _ | assumption | refine Ext.alloc ?_ _ | refine Ext.drew ?_ | refine Ext.drewN ?_ _ | refine Ext.trans ?_ (by assumption))⟩

set_option maxRecDepth 100000 in
theorem seamPicks_lifted (os : Os) (started : os.Started) (H : Type) (enc : TypeId × Value → H) :
    ReturnsInHanded {} Try.checked os 3 .any (Rows.seamPicksSpec.pre6 enc Try.prog Try.f3 Rows.seamPicksRow.domain false) (Rows.seamPicksSpec.post enc Try.prog Try.f3 false true false false) := by
  refine returnsInHanded_of_change (C := Try.checked) own started (by kernel_rfl) Try.func3
    (ChangeSpec.witness6 (enc := enc) (C := Try.checked) false ⟨#[], #[.agg #[.int .i64 0, .int .i64 0, .int .i64 0, .int .i64 0], .int .i64 0, .int .i64 0], []⟩ 8 (by kernel_rfl) (by kernel_rfl) (by kernel_rfl) (by kernel_rfl)) ?_
  intro W base args ds gs before hval0 hW hcnd _
  have hval : ∀ (j : Nat) t v, Try.f3.params[j]? = some t → args[j]? = some v → Value.okWide Try.prog W .any base t v := hval0
  have hW' := hW
  obtain ⟨p, q, hA0, hV, rfl, hfz, hnd⟩ := hW
  have hA : DataW.TrodAll enc Try.prog W 0 (fun _ => true) true Try.f3.params.toList args.toList ds p := hA0
  rw [Try.params3] at hA hval
  obtain ⟨v0, vs0, d0, ds0, p0, q0, hargs, rfl, rfl, h0, r0⟩ := trodAll_cons hA
  obtain ⟨v1, vs1, d1, ds1, p1, q1, rfl, rfl, rfl, h1, r1⟩ := trodAll_cons r0
  obtain ⟨v2, vs2, d2, ds2, p2, q2, rfl, rfl, rfl, h2, r2⟩ := trodAll_cons r1
  obtain ⟨rfl, rfl, rfl⟩ := trodAll_nil r2
  obtain rfl : args = #[v0, v1, v2] := by cases args; simp_all
  obtain ⟨rfl, rfl⟩ := trodVars_none hV
  obtain ⟨ga, gb, gc, gd, rfl⟩ := open_gauge (hval 0 23 v0 rfl rfl) h0
  obtain ⟨rows, rfl, rfl, -, -⟩ := open_int Try.underlying3 (hval 1 3 v1 rfl rfl) h1
  obtain ⟨n, rfl, rfl, -, -⟩ := open_int Try.underlying3 (hval 2 3 v2 rfl rfl) h2
  refine (seamPicks_walk ga gb gc gd rows n W).mono fun e W' ⟨he, hg⟩ => ?_
  subst he
  exact ⟨_, rfl, law_post laid_out rfl Try.underlying4 (by kernel_rfl) rfl hW' rfl hg⟩

theorem seamPicks_holds : Rows.SeamPicksSaid :=
  OpenClaim.holds_of_wide 3 Try.f3 rfl rfl rfl rfl rfl rfl rfl ⟨rfl, rfl, rfl, rfl, rfl⟩ rfl rfl rfl rfl rfl (by kernel_rfl) Try.func3 (by kernel_rfl)
    (of_decide_eq_true (by kernel_rfl)) (by unfold Func.isWrapper; first | (rw [if_pos (by decide +kernel)]; kernel_rfl) | (rw [if_neg (by decide +kernel)]; exact ⟨rfl, rfl⟩))
    (fun os started H enc _ => seamPicks_lifted os started H enc)
end Go.Proofs.Ytepegahgiciegaa
