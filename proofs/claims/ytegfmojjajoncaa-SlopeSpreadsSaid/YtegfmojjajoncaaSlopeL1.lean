/- SlopeSpreads: whatever the numbers, Marks, Gaps and Words return what the reference returns. No condition. -/
import Derived.Test.YtegfmojjajoncaaSlopeD
namespace Go.Proofs.Ytegfmojjajoncaa
open Go.ChangeShapes Go.WideShapes Go.ChangeAt Go.RowKit Go.Joins

set_option maxRecDepth 100000 in
set_option maxHeartbeats 4000000 in
theorem slopeSpreads_walk (rows changes : Int) (w : World) :
    Calls Try.prog 3 #[.int .i64 rows, .int .i64 changes] w fun e w' => e = .returned (.bool true) ∧ Ext w w' := by
  have HL1 := Lib.hid (marksL_len rows changes)
  have HL2 := Lib.hid (gapsL_len rows changes)
  go_enter Try.func3, Try.ntmps3
  go_wp2_with (first | (go_at_call 10; ((with_reducible refine (marks_any _ _ _).mono ?_); rintro e w1 ⟨A1, c1, rfl, hi1, hq1⟩)) | (go_at_call 11; ((with_reducible refine (rmarks_any _ _ _).mono ?_); rintro e w1 ⟨A2, c2, rfl, hi2, hq2⟩)) | (go_at_call 12; ((with_reducible refine (gaps_any _ _ _).mono ?_); rintro e w1 ⟨A3, c3, rfl, hi3, hq3⟩)) | (go_at_call 13; ((with_reducible refine (rgaps_any _ _ _).mono ?_); rintro e w1 ⟨A4, c4, rfl, hi4, hq4⟩)) | (go_at_call 14; ((with_reducible refine (words_any _ _ _).mono ?_); rintro e w1 ⟨rfl, hq5⟩; have hP := At3.new w1 (.int .i64 (words rows changes).1) (.int .i64 (words rows changes).2.1) (.int .i64 (words rows changes).2.2) 29)) | (go_at_call 15; ((with_reducible refine (rwords_any _ _ _).mono ?_); rintro e w1 ⟨rfl, hq6⟩; have hQ := At3.new w1 (.int .i64 (words rows changes).1) (.int .i64 (words rows changes).2.1) (.int .i64 (words rows changes).2.2) 29)))
  go_wp2_with (first | (go_at_call 16; ((with_reducible refine (same_any _ _ _ _ A1 A2 (marksL rows changes) (marksL rows changes) _ ?_ ?_ HL1.out).mono ?_); (focus (refine Ints.ext hi1 ?_; repeat (first | exact Ext.refl _ | assumption | refine Ext.alloc ?_ _ | refine Ext.drew ?_ | refine Ext.drewN ?_ _ | refine Ext.trans ?_ (by assumption)))); (focus (refine Ints.ext hi2 ?_; repeat (first | exact Ext.refl _ | assumption | refine Ext.alloc ?_ _ | refine Ext.drew ?_ | refine Ext.drewN ?_ _ | refine Ext.trans ?_ (by assumption))))); rintro e w7 ⟨rfl, hq⟩; replace hP : At3 w7 _ _ _ _ := hP.ext (by repeat (first | exact Ext.refl _ | assumption | refine Ext.alloc ?_ _ | refine Ext.drew ?_ | refine Ext.drewN ?_ _ | refine Ext.trans ?_ (by assumption))); have hP1 := hP.2.1; have hP2 := hP.2.2.1; have hP3 := hP.2.2.2; replace hQ : At3 w7 _ _ _ _ := hQ.ext (by repeat (first | exact Ext.refl _ | assumption | refine Ext.alloc ?_ _ | refine Ext.drew ?_ | refine Ext.drewN ?_ _ | refine Ext.trans ?_ (by assumption))); have hQ1 := hQ.2.1; have hQ2 := hQ.2.2.1; have hQ3 := hQ.2.2.2) | (go_at_call 16; ((with_reducible refine (same_any _ _ _ _ A3 A4 (gapsL rows changes) (gapsL rows changes) _ ?_ ?_ HL2.out).mono ?_); (focus (refine Ints.ext hi3 ?_; repeat (first | exact Ext.refl _ | assumption | refine Ext.alloc ?_ _ | refine Ext.drew ?_ | refine Ext.drewN ?_ _ | refine Ext.trans ?_ (by assumption)))); (focus (refine Ints.ext hi4 ?_; repeat (first | exact Ext.refl _ | assumption | refine Ext.alloc ?_ _ | refine Ext.drew ?_ | refine Ext.drewN ?_ _ | refine Ext.trans ?_ (by assumption))))); rintro e w7 ⟨rfl, hq⟩; replace hP : At3 w7 _ _ _ _ := hP.ext (by repeat (first | exact Ext.refl _ | assumption | refine Ext.alloc ?_ _ | refine Ext.drew ?_ | refine Ext.drewN ?_ _ | refine Ext.trans ?_ (by assumption))); have hP1 := hP.2.1; have hP2 := hP.2.2.1; have hP3 := hP.2.2.2; replace hQ : At3 w7 _ _ _ _ := hQ.ext (by repeat (first | exact Ext.refl _ | assumption | refine Ext.alloc ?_ _ | refine Ext.drew ?_ | refine Ext.drewN ?_ _ | refine Ext.trans ?_ (by assumption))); have hQ1 := hQ.2.1; have hQ2 := hQ.2.2.1; have hQ3 := hQ.2.2.2))
  go_ret
  exact ⟨rfl, by repeat (first | exact Ext.refl _ | assumption | refine Ext.alloc ?_ _ | refine Ext.drew ?_ | refine Ext.drewN ?_ _ | refine Ext.trans ?_ (by assumption))⟩

set_option maxRecDepth 100000 in
theorem slopeSpreads_lifted (os : Os) (started : os.Started) (H : Type) (enc : TypeId × Value → H) :
    ReturnsInHanded {} Try.checked os 3 .any (Rows.slopeSpreadsSpec.pre6 enc Try.prog Try.f3 Rows.slopeSpreadsRow.domain false) (Rows.slopeSpreadsSpec.post enc Try.prog Try.f3 false true false false) := by
  refine returnsInHanded_of_change (C := Try.checked) own started (by kernel_rfl) Try.func3
    (ChangeSpec.witness6 (enc := enc) (C := Try.checked) false ⟨#[], #[.int .i64 0, .int .i64 0], []⟩ 8 (by kernel_rfl) (by kernel_rfl) (by kernel_rfl) (by kernel_rfl)) ?_
  intro W base args ds gs before hval0 hW hcnd _
  have hval : ∀ (j : Nat) t v, Try.f3.params[j]? = some t → args[j]? = some v → Value.okWide Try.prog W .any base t v := hval0
  have hW' := hW
  obtain ⟨p, q, hA0, hV, rfl, hfz, hnd⟩ := hW
  have hA : DataW.TrodAll enc Try.prog W 0 (fun _ => true) true Try.f3.params.toList args.toList ds p := hA0
  rw [Try.params3] at hA hval
  obtain ⟨v0, vs0, d0, ds0, p0, q0, hargs, rfl, rfl, h0, r0⟩ := trodAll_cons hA
  obtain ⟨v1, vs1, d1, ds1, p1, q1, rfl, rfl, rfl, h1, r1⟩ := trodAll_cons r0
  obtain ⟨rfl, rfl, rfl⟩ := trodAll_nil r1
  obtain rfl : args = #[v0, v1] := by cases args; simp_all
  obtain ⟨rfl, rfl⟩ := trodVars_none hV
  obtain ⟨rows, rfl, rfl, -, -⟩ := open_int Try.underlying3 (hval 0 3 v0 rfl rfl) h0
  obtain ⟨changes, rfl, rfl, -, -⟩ := open_int Try.underlying3 (hval 1 3 v1 rfl rfl) h1
  refine (slopeSpreads_walk rows changes W).mono fun e W' ⟨he, hg⟩ => ?_
  subst he
  exact ⟨_, rfl, law_post laid_out rfl Try.underlying4 (by kernel_rfl) rfl hW' rfl hg⟩

theorem slopeSpreads_holds : Rows.SlopeSpreadsSaid :=
  OpenClaim.holds_of_wide 3 Try.f3 rfl rfl rfl rfl rfl rfl rfl ⟨rfl, rfl, rfl, rfl, rfl⟩ rfl rfl rfl rfl rfl (by kernel_rfl) Try.func3 (by kernel_rfl)
    (of_decide_eq_true (by kernel_rfl)) (by unfold Func.isWrapper; first | (rw [if_pos (by decide +kernel)]; kernel_rfl) | (rw [if_neg (by decide +kernel)]; exact ⟨rfl, rfl⟩))
    (fun os started H enc _ => slopeSpreads_lifted os started H enc)
end Go.Proofs.Ytegfmojjajoncaa
