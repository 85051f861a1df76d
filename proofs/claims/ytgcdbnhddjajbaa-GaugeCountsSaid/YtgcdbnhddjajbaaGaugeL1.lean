/- GaugeCounts: whatever the gauge and the numbers, Check, Stitches, Rows, Width and Height return what the reference returns. No condition. -/
import Derived.Test.YtgcdbnhddjajbaaLaw
import Derived.Test.YtgcdbnhddjajbaaGaugeF
import Derived.Test.YtgcdbnhddjajbaaGaugeC
namespace Go.Proofs.Ytgcdbnhddjajbaa
open Go.ChangeShapes Go.WideShapes Go.ChangeAt Go.RowKit Go.Joins

set_option maxRecDepth 100000 in
set_option maxHeartbeats 4000000 in
theorem gaugeCounts_walk (ga gb gc gd width n : Int) (w : World) :
    Calls Try.prog 3 #[.agg #[.int .i64 ga, .int .i64 gb, .int .i64 gc, .int .i64 gd], .int .i64 width, .int .i64 n] w fun e w' => e = .returned (.bool true) ∧ Ext w w' := by
  have hb : Ext (w.alloc (.cells #[.int .i64 ga, .int .i64 gb, .int .i64 gc, .int .i64 gd] 23)) (w.alloc (.cells #[.int .i64 ga, .int .i64 gb, .int .i64 gc, .int .i64 gd] 23)) := Ext.refl _
  go_enter Try.func3, Try.ntmps3
  go_wp2_with (first | (go_at_call 10; ((with_reducible refine (stitches_any _ _ _ _ _ _).mono ?_); rintro e w1 ⟨rfl, hq⟩; replace hb := Ext.via hb hq (by repeat (first | exact Ext.refl _ | refine Ext.drew ?_ | refine Ext.drewN ?_ _ | refine Ext.alloc ?_ _)); clear hq; obtain ⟨hc, hf, hz⟩ := hb.facts)) | (go_at_call 12; ((with_reducible refine (rows_any _ _ _ _ _ _).mono ?_); rintro e w1 ⟨rfl, hq⟩; replace hb := Ext.via hb hq (by repeat (first | exact Ext.refl _ | refine Ext.drew ?_ | refine Ext.drewN ?_ _ | refine Ext.alloc ?_ _)); clear hq; obtain ⟨hc, hf, hz⟩ := hb.facts)) | (go_at_call 14; ((with_reducible refine (width_any _ _ _ _ _ _).mono ?_); rintro e w1 ⟨rfl, hq⟩; replace hb := Ext.via hb hq (by repeat (first | exact Ext.refl _ | refine Ext.drew ?_ | refine Ext.drewN ?_ _ | refine Ext.alloc ?_ _)); clear hq; obtain ⟨hc, hf, hz⟩ := hb.facts)) | (go_at_call 16; ((with_reducible refine (height_any _ _ _ _ _ _).mono ?_); rintro e w1 ⟨rfl, hq⟩; replace hb := Ext.via hb hq (by repeat (first | exact Ext.refl _ | refine Ext.drew ?_ | refine Ext.drewN ?_ _ | refine Ext.alloc ?_ _)); clear hq; obtain ⟨hc, hf, hz⟩ := hb.facts)) | (go_at_call 11; ((with_reducible refine (rstitches_any _ _ _ _ _ _).mono ?_); rintro e w1 ⟨rfl, hq⟩; replace hb := Ext.via hb hq (by repeat (first | exact Ext.refl _ | refine Ext.drew ?_ | refine Ext.drewN ?_ _ | refine Ext.alloc ?_ _)); clear hq; obtain ⟨hc, hf, hz⟩ := hb.facts)) | (go_at_call 13; ((with_reducible refine (rrows_any _ _ _ _ _ _).mono ?_); rintro e w1 ⟨rfl, hq⟩; replace hb := Ext.via hb hq (by repeat (first | exact Ext.refl _ | refine Ext.drew ?_ | refine Ext.drewN ?_ _ | refine Ext.alloc ?_ _)); clear hq; obtain ⟨hc, hf, hz⟩ := hb.facts)) | (go_at_call 15; ((with_reducible refine (rwidth_any _ _ _ _ _ _).mono ?_); rintro e w1 ⟨rfl, hq⟩; replace hb := Ext.via hb hq (by repeat (first | exact Ext.refl _ | refine Ext.drew ?_ | refine Ext.drewN ?_ _ | refine Ext.alloc ?_ _)); clear hq; obtain ⟨hc, hf, hz⟩ := hb.facts)) | (go_at_call 17; ((with_reducible refine (rheight_any _ _ _ _ _ _).mono ?_); rintro e w1 ⟨rfl, hq⟩; replace hb := Ext.via hb hq (by repeat (first | exact Ext.refl _ | refine Ext.drew ?_ | refine Ext.drewN ?_ _ | refine Ext.alloc ?_ _)); clear hq; obtain ⟨hc, hf, hz⟩ := hb.facts)) | (go_at_call 18; ((with_reducible refine (gcheck_any _ _ _ _ _).mono ?_); rintro e w1 ⟨rfl, hq⟩; replace hb := Ext.via hb hq (by repeat (first | exact Ext.refl _ | refine Ext.drew ?_ | refine Ext.drewN ?_ _ | refine Ext.alloc ?_ _)); clear hq; obtain ⟨hc, hf, hz⟩ := hb.facts)) | (go_at_call 19; ((with_reducible refine (rcheck_any _ _ _ _ _).mono ?_); rintro e w1 ⟨rfl, hq⟩; replace hb := Ext.via hb hq (by repeat (first | exact Ext.refl _ | refine Ext.drew ?_ | refine Ext.drewN ?_ _ | refine Ext.alloc ?_ _)); clear hq; obtain ⟨hc, hf, hz⟩ := hb.facts)))
  go_region_held3 (fun w' => w'.cell? ⟨w.heap.size, 0, none⟩ = some (.int .i64 ga) ∧ w'.cell? ⟨w.heap.size, 1, none⟩ = some (.int .i64 gb) ∧ w'.cell? ⟨w.heap.size, 2, none⟩ = some (.int .i64 gc) ∧ w'.cell? ⟨w.heap.size, 3, none⟩ = some (.int .i64 gd)) (go_keep) ((first | (go_at_call 18; ((with_reducible refine (gcheck_any _ _ _ _ _).mono ?_); rintro e w1 ⟨rfl, hq⟩; replace hb := Ext.via hb hq (by repeat (first | exact Ext.refl _ | refine Ext.drew ?_ | refine Ext.drewN ?_ _ | refine Ext.alloc ?_ _)); clear hq; obtain ⟨hc, hf, hz⟩ := hb.facts)) | (go_at_call 19; ((with_reducible refine (rcheck_any _ _ _ _ _).mono ?_); rintro e w1 ⟨rfl, hq⟩; replace hb := Ext.via hb hq (by repeat (first | exact Ext.refl _ | refine Ext.drew ?_ | refine Ext.drewN ?_ _ | refine Ext.alloc ?_ _)); clear hq; obtain ⟨hc, hf, hz⟩ := hb.facts))))
  go_wp2
  go_ret
  exact ⟨rfl, by repeat (first | exact Ext.refl _ | refine Ext.alloc ?_ _ | refine Ext.drew ?_ | refine Ext.drewN ?_ _ | refine Ext.trans ?_ (by assumption))⟩

set_option maxRecDepth 100000 in
theorem gaugeCounts_lifted (os : Os) (started : os.Started) (H : Type) (enc : TypeId × Value → H) :
    ReturnsInHanded {} Try.checked os 3 .any (Rows.gaugeCountsSpec.pre6 enc Try.prog Try.f3 Rows.gaugeCountsRow.domain false) (Rows.gaugeCountsSpec.post enc Try.prog Try.f3 false true false false) := by
  refine returnsInHanded_of_change (C := Try.checked) own started (by kernel_rfl) Try.func3
    (ChangeSpec.witness6 (enc := enc) (C := Try.checked) false ⟨#[], #[.agg #[.int .i64 0, .int .i64 0, .int .i64 0, .int .i64 0], .int .i64 0, .int .i64 0], []⟩ 8 (by kernel_rfl) (by kernel_rfl) (by kernel_rfl) (by kernel_rfl)) ?_
  intro W base args ds gs before hval0 hW hcnd _
  have hval : ∀ (j : Nat) t v, Try.f3.params[j]? = some t → args[j]? = some v → Value.okWide Try.prog W .any base t v := hval0
  have hW' := hW
  obtain ⟨p, q, hA0, hV, rfl, hfz, hnd⟩ := hW
  have hA : DataW.TrodAll enc Try.prog W 0 (fun _ => true) true Try.f3.params.toList args.toList ds p := hA0
  rw [Try.params3] at hA hval
  obtain ⟨v0, vs0, d0, ds0, p0, q0, hargs, rfl, rfl, h0, r0⟩ := trodAll_cons hA
  obtain ⟨v1, vs1, d1, ds1, p1, q1, rfl, rfl, rfl, h1, r1⟩ := trodAll_cons r0
  obtain ⟨v2, vs2, d2, ds2, p2, q2, rfl, rfl, rfl, h2, r2⟩ := trodAll_cons r1
  obtain ⟨rfl, rfl, rfl⟩ := trodAll_nil r2
  obtain rfl : args = #[v0, v1, v2] := by cases args; simp_all
  obtain ⟨rfl, rfl⟩ := trodVars_none hV
  obtain ⟨ga, gb, gc, gd, rfl⟩ := open_gauge (hval 0 23 v0 rfl rfl) h0
  obtain ⟨width, rfl, rfl, -, -⟩ := open_int Try.underlying3 (hval 1 3 v1 rfl rfl) h1
  obtain ⟨n, rfl, rfl, -, -⟩ := open_int Try.underlying3 (hval 2 3 v2 rfl rfl) h2
  refine (gaugeCounts_walk ga gb gc gd width n W).mono fun e W' ⟨he, hg⟩ => ?_
  subst he
  exact ⟨_, rfl, law_post laid_out rfl Try.underlying4 (by kernel_rfl) rfl hW' rfl hg⟩

theorem gaugeCounts_holds : Rows.GaugeCountsSaid :=
  OpenClaim.holds_of_wide 3 Try.f3 rfl rfl rfl rfl rfl rfl rfl ⟨rfl, rfl, rfl, rfl, rfl⟩ rfl rfl rfl rfl rfl (by kernel_rfl) Try.func3 (by kernel_rfl)
    (of_decide_eq_true (by kernel_rfl)) (by unfold Func.isWrapper; first | (rw [if_pos (by decide +kernel)]; kernel_rfl) | (rw [if_neg (by decide +kernel)]; exact ⟨rfl, rfl⟩))
    (fun os started H enc _ => gaugeCounts_lifted os started H enc)
end Go.Proofs.Ytgcdbnhddjajbaa
