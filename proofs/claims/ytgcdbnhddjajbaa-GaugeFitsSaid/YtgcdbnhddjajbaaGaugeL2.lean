/- GaugeFits: whatever the gauges and the numbers, Fit and Change return what the reference returns. No condition. -/
import Derived.Test.YtgcdbnhddjajbaaLaw
import Derived.Test.YtgcdbnhddjajbaaGaugeF
import Derived.Test.YtgcdbnhddjajbaaGaugeC
namespace Go.Proofs.Ytgcdbnhddjajbaa
open Go.ChangeShapes Go.WideShapes Go.ChangeAt Go.RowKit Go.Joins

set_option maxRecDepth 100000 in
set_option maxHeartbeats 4000000 in
theorem gaugeFits_walk (ga gb gc gd h1 h2 h3 h4 width every extra n : Int) (w : World) :
    Calls Try.prog 4 #[.agg #[.int .i64 ga, .int .i64 gb, .int .i64 gc, .int .i64 gd], .agg #[.int .i64 h1, .int .i64 h2, .int .i64 h3, .int .i64 h4], .int .i64 width, .int .i64 every, .int .i64 extra, .int .i64 n] w fun e w' => e = .returned (.bool true) ∧ Ext w w' := by
  have hb : Ext ((w.alloc (.cells #[.int .i64 ga, .int .i64 gb, .int .i64 gc, .int .i64 gd] 23)).alloc (.cells #[.int .i64 h1, .int .i64 h2, .int .i64 h3, .int .i64 h4] 23)) ((w.alloc (.cells #[.int .i64 ga, .int .i64 gb, .int .i64 gc, .int .i64 gd] 23)).alloc (.cells #[.int .i64 h1, .int .i64 h2, .int .i64 h3, .int .i64 h4] 23)) := Ext.refl _
  go_enter Try.func4, Try.ntmps4
  go_wp2_with (first | (go_at_call 20; ((with_reducible refine (fit_any _ _ _ _ _ _ _ _).mono ?_); rintro e w1 ⟨rfl, hq⟩; replace hb := Ext.via hb hq (by repeat (first | exact Ext.refl _ | refine Ext.drew ?_ | refine Ext.drewN ?_ _ | refine Ext.alloc ?_ _)); clear hq; obtain ⟨hc, hf, hz⟩ := hb.facts)) | (go_at_call 21; ((with_reducible refine (rfit_any _ _ _ _ _ _ _ _).mono ?_); rintro e w1 ⟨rfl, hq⟩; replace hb := Ext.via hb hq (by repeat (first | exact Ext.refl _ | refine Ext.drew ?_ | refine Ext.drewN ?_ _ | refine Ext.alloc ?_ _)); clear hq; obtain ⟨hc, hf, hz⟩ := hb.facts)) | (go_at_call 22; ((with_reducible refine (change_any _ _ _ _ _ _ _ _ _ _).mono ?_); rintro e w1 ⟨rfl, hq⟩; replace hb := Ext.via hb hq (by repeat (first | exact Ext.refl _ | refine Ext.drew ?_ | refine Ext.drewN ?_ _ | refine Ext.alloc ?_ _)); clear hq; obtain ⟨hc, hf, hz⟩ := hb.facts)) | (go_at_call 23; ((with_reducible refine (rchange_any _ _ _ _ _ _ _ _ _ _).mono ?_); rintro e w1 ⟨rfl, hq⟩; replace hb := Ext.via hb hq (by repeat (first | exact Ext.refl _ | refine Ext.drew ?_ | refine Ext.drewN ?_ _ | refine Ext.alloc ?_ _)); clear hq; obtain ⟨hc, hf, hz⟩ := hb.facts)))
  go_ret
  exact ⟨rfl, by repeat (first | exact Ext.refl _ | refine Ext.alloc ?_ _ | refine Ext.drew ?_ | refine Ext.drewN ?_ _ | refine Ext.trans ?_ (by assumption))⟩

set_option maxRecDepth 100000 in
theorem gaugeFits_lifted (os : Os) (started : os.Started) (H : Type) (enc : TypeId × Value → H) :
    ReturnsInHanded {} Try.checked os 4 .any (Rows.gaugeFitsSpec.pre6 enc Try.prog Try.f4 Rows.gaugeFitsRow.domain false) (Rows.gaugeFitsSpec.post enc Try.prog Try.f4 false true false false) := by
  refine returnsInHanded_of_change (C := Try.checked) own started (by kernel_rfl) Try.func4
    (ChangeSpec.witness6 (enc := enc) (C := Try.checked) false ⟨#[], #[.agg #[.int .i64 0, .int .i64 0, .int .i64 0, .int .i64 0], .agg #[.int .i64 0, .int .i64 0, .int .i64 0, .int .i64 0], .int .i64 0, .int .i64 0, .int .i64 0, .int .i64 0], []⟩ 8 (by kernel_rfl) (by kernel_rfl) (by kernel_rfl) (by kernel_rfl)) ?_
  intro W base args ds gs before hval0 hW hcnd _
  have hval : ∀ (j : Nat) t v, Try.f4.params[j]? = some t → args[j]? = some v → Value.okWide Try.prog W .any base t v := hval0
  have hW' := hW
  obtain ⟨p, q, hA0, hV, rfl, hfz, hnd⟩ := hW
  have hA : DataW.TrodAll enc Try.prog W 0 (fun _ => true) true Try.f4.params.toList args.toList ds p := hA0
  rw [Try.params4] at hA hval
  obtain ⟨v0, vs0, d0, ds0, p0, q0, hargs, rfl, rfl, h0, r0⟩ := trodAll_cons hA
  obtain ⟨v1, vs1, d1, ds1, p1, q1, rfl, rfl, rfl, h1, r1⟩ := trodAll_cons r0
  obtain ⟨v2, vs2, d2, ds2, p2, q2, rfl, rfl, rfl, h2, r2⟩ := trodAll_cons r1
  obtain ⟨v3, vs3, d3, ds3, p3, q3, rfl, rfl, rfl, h3, r3⟩ := trodAll_cons r2
  obtain ⟨v4, vs4, d4, ds4, p4, q4, rfl, rfl, rfl, h4, r4⟩ := trodAll_cons r3
  obtain ⟨v5, vs5, d5, ds5, p5, q5, rfl, rfl, rfl, h5, r5⟩ := trodAll_cons r4
  obtain ⟨rfl, rfl, rfl⟩ := trodAll_nil r5
  obtain rfl : args = #[v0, v1, v2, v3, v4, v5] := by cases args; simp_all
  obtain ⟨rfl, rfl⟩ := trodVars_none hV
  obtain ⟨ga, gb, gc, gd, rfl⟩ := open_gauge (hval 0 23 v0 rfl rfl) h0
  obtain ⟨ha, hb, hc, hd, rfl⟩ := open_gauge (hval 1 23 v1 rfl rfl) h1
  obtain ⟨width, rfl, rfl, -, -⟩ := open_int Try.underlying3 (hval 2 3 v2 rfl rfl) h2
  obtain ⟨every, rfl, rfl, -, -⟩ := open_int Try.underlying3 (hval 3 3 v3 rfl rfl) h3
  obtain ⟨extra, rfl, rfl, -, -⟩ := open_int Try.underlying3 (hval 4 3 v4 rfl rfl) h4
  obtain ⟨n, rfl, rfl, -, -⟩ := open_int Try.underlying3 (hval 5 3 v5 rfl rfl) h5
  refine (gaugeFits_walk ga gb gc gd ha hb hc hd width every extra n W).mono fun e W' ⟨he, hg⟩ => ?_
  subst he
  exact ⟨_, rfl, law_post laid_out rfl Try.underlying4 (by kernel_rfl) rfl hW' rfl hg⟩

theorem gaugeFits_holds : Rows.GaugeFitsSaid :=
  OpenClaim.holds_of_wide 4 Try.f4 rfl rfl rfl rfl rfl rfl rfl ⟨rfl, rfl, rfl, rfl, rfl⟩ rfl rfl rfl rfl rfl (by kernel_rfl) Try.func4 (by kernel_rfl)
    (of_decide_eq_true (by kernel_rfl)) (by unfold Func.isWrapper; first | (rw [if_pos (by decide +kernel)]; kernel_rfl) | (rw [if_neg (by decide +kernel)]; exact ⟨rfl, rfl⟩))
    (fun os started H enc _ => gaugeFits_lifted os started H enc)
end Go.Proofs.Ytgcdbnhddjajbaa
