/- SlopeNames: the limits, the lines that fall, the ties and the errors of slope are as the chapter has them. No condition. -/
import Derived.Test.YtegfmojjajoncaaSlopeD
namespace Go.Proofs.Ytegfmojjajoncaa
open Go.ChangeShapes Go.WideShapes Go.ChangeAt Go.RowKit Go.Joins

theorem is_c {a b rows : Int} {L : List Int} {n c : Nat} {A : Option Addr} (h : lineL a b rows = L ∧ lnE a b rows = 0) (hm : L.length ≤ maxLen) (w : World) (hx : Ints w A n L) :
    Calls Try.prog 23 #[.int .i64 a, .int .i64 b, .int .i64 rows, .slice A n c] w fun e w' => e = .returned (.bool true) ∧ Ext w w' := by
  have HX := Lib.hid hx
  have HM := Lib.hid hm
  clear hm hx
  go_enter Try.func23, Try.ntmps23
  go_wp2_with (first | (go_at_call 17; ((with_reducible refine (line_c h.1 h.2 _).mono ?_); rintro e w1 ⟨A1, c1, rfl, hi1, hq1⟩)) | (go_at_call 16; ((with_reducible refine (same_any _ _ _ _ A1 A L L _ ?_ ?_ HM.out).mono ?_); (focus (refine Ints.ext hi1 ?_; repeat (first | exact Ext.refl _ | assumption | refine Ext.alloc ?_ _ | refine Ext.drew ?_ | refine Ext.drewN ?_ _ | refine Ext.trans ?_ (by assumption)))); (focus (refine Ints.ext HX.out ?_; repeat (first | exact Ext.refl _ | assumption | refine Ext.alloc ?_ _ | refine Ext.drew ?_ | refine Ext.drewN ?_ _ | refine Ext.trans ?_ (by assumption))))); rintro e w7 ⟨rfl, hq⟩))
  go_ret
  exact ⟨rfl, by repeat (first | exact Ext.refl _ | assumption | refine Ext.alloc ?_ _ | refine Ext.drew ?_ | refine Ext.drewN ?_ _ | refine Ext.trans ?_ (by assumption))⟩
theorem steps_many {n c : Nat} {A : Option Addr} {l : List Int} (w : World) (hl : Ints w A n l) (h : 1001 < n) (hm : n ≤ maxLen) :
    Calls Try.prog 21 #[.slice A n c] w fun x w' => ∃ A' cap, x = .returned (.tuple #[.slice A' 0 cap, .int .i64 4]) ∧ Ints w' A' 0 [] ∧ Ext w w' := by
  have he : stE l = 4 := by rw [stE, if_pos (by have := hl.1; omega)]
  exact steps_c (L := []) (by simp [stepsL, he]) he w hl hm
theorem nmEv1 : lineL 50 40 4 = [50, 48, 45, 43, 40] ∧ lnE 50 40 4 = 0 := by decide +kernel
theorem nmEv2 : lineL 0 (-1) 2 = [0, 0, (-1)] ∧ lnE 0 (-1) 2 = 0 := by decide +kernel
theorem nmEv3 : lineL 0 1 2 = [0, 1, 1] ∧ lnE 0 1 2 = 0 := by decide +kernel
theorem nmEv4 : lineL 7 7 3 = [7, 7, 7, 7] ∧ lnE 7 7 3 = 0 := by decide +kernel
theorem nmEv5 : lineL (-1000) 1000 1 = [(-1000), 1000] ∧ lnE (-1000) 1000 1 = 0 := by decide +kernel
theorem nmEv6 : lineL 0 (-3) 3 = [0, (-1), (-2), (-3)] ∧ lnE 0 (-3) 3 = 0 := by decide +kernel
theorem nmEv7 : evenL 0 9 3 = [0, 0, 6, 9] ∧ lnE 0 9 3 = 0 := by decide +kernel
theorem nmEv8 : lineL 1001 0 1 = [] ∧ lnE 1001 0 1 = 2 := by decide +kernel
theorem nmEv9 : lineL 0 (-1001) 1 = [] ∧ lnE 0 (-1001) 1 = 2 := by decide +kernel
theorem nmEv10 : lineL 0 0 0 = [] ∧ lnE 0 0 0 = 2 := by decide +kernel
theorem nmEv11 : evenL 0 0 1001 = [] ∧ lnE 0 0 1001 = 2 := by decide +kernel
theorem nmEv12 : stepsL [5] = [] ∧ stE [5] = 0 := by decide +kernel
theorem nmEv13 : stepsL [0, 1001] = [] ∧ stE [0, 1001] = 16 := by decide +kernel
theorem nmEv14 : marksL 0 0 = [] ∧ spE 0 0 = 2 := by decide +kernel
theorem nmEv15 : gapsL 3 4 = [] ∧ spE 3 4 = 2 := by decide +kernel
theorem nmEv16 : words 1001 1 = (0, 0, 0) ∧ spE 1001 1 = 2 := by decide +kernel
theorem nmEv17 : words 5 0 = (0, 0, 0) ∧ spE 5 0 = 2 := by decide +kernel
theorem nmEv18 : marksL 9 1 = [4] ∧ spE 9 1 = 0 := by decide +kernel
theorem nmEv19 : marksL 4 4 = [0, 1, 2, 3] ∧ spE 4 4 = 0 := by decide +kernel
theorem nmEv20 : words 1000 1000 = (1, 1000, 0) ∧ spE 1000 1000 = 0 := by decide +kernel

set_option maxRecDepth 100000 in
set_option maxHeartbeats 8000000 in
theorem slopeNames_walk (w : World) :
    Calls Try.prog 5 #[] w fun e w' => e = .returned (.bool true) ∧ Ext w w' := by
  obtain ⟨i0, hi, hz0, hz1, hz2⟩ := info_parts info_int
  have hB1 : i0.bytes * 1002 ≤ 281474976710656 := by rw [hz2]; omega
  have hB2 : 1002 ≤ maxLen := by decide
  go_enter Try.func5, Try.ntmps5
  go_wp2_with (first | (at_make; refine wpList_make_full _ rfl _ _ 22 rfl 0 3 i0 (.int .i64 0) 1 Try.underlying22 hi hz0 hz1 _ _ _ _ 1002 rfl rfl rfl rfl hB1 hB2 (Nat.zero_le _) ?_; intro w1 hown hgr; have hiM := Ints.of_row (f := fun _ => 0) (RowV.made (.int .i64 0) rfl hown); have hqM := But.ext_none hgr; clear hown hgr) | (go_at_call 23; ((with_reducible refine (is_c (a := 50) (b := 40) nmEv1 (by decide) _ ?_).mono ?_); (focus (refine Ints.lit2 ?_ rfl rfl; simp))); rintro e w1 ⟨rfl, hq⟩) | (go_at_call 23; ((with_reducible refine (is_c (a := 0) (b := (-1)) nmEv2 (by decide) _ ?_).mono ?_); (focus (refine Ints.lit2 ?_ rfl rfl; simp))); rintro e w1 ⟨rfl, hq⟩) | (go_at_call 23; ((with_reducible refine (is_c (a := 0) (b := 1) nmEv3 (by decide) _ ?_).mono ?_); (focus (refine Ints.lit2 ?_ rfl rfl; simp))); rintro e w1 ⟨rfl, hq⟩) | (go_at_call 23; ((with_reducible refine (is_c (a := 7) (b := 7) nmEv4 (by decide) _ ?_).mono ?_); (focus (refine Ints.lit2 ?_ rfl rfl; simp))); rintro e w1 ⟨rfl, hq⟩) | (go_at_call 23; ((with_reducible refine (is_c (a := (-1000)) (b := 1000) nmEv5 (by decide) _ ?_).mono ?_); (focus (refine Ints.lit2 ?_ rfl rfl; simp))); rintro e w1 ⟨rfl, hq⟩) | (go_at_call 23; ((with_reducible refine (is_c (a := 0) (b := (-3)) nmEv6 (by decide) _ ?_).mono ?_); (focus (refine Ints.lit2 ?_ rfl rfl; simp))); rintro e w1 ⟨rfl, hq⟩) | (go_at_call 19; ((with_reducible refine (even_c nmEv7.1 nmEv7.2 _).mono ?_); rintro e w1 ⟨A0, c0, rfl, hi0, hq0⟩)) | (go_at_call 17; ((with_reducible refine (line_c nmEv8.1 nmEv8.2 _).mono ?_); rintro e w1 ⟨A1, c1, rfl, hi1, hq1⟩)) | (go_at_call 17; ((with_reducible refine (line_c nmEv9.1 nmEv9.2 _).mono ?_); rintro e w1 ⟨A2, c2, rfl, hi2, hq2⟩)) | (go_at_call 17; ((with_reducible refine (line_c nmEv10.1 nmEv10.2 _).mono ?_); rintro e w1 ⟨A3, c3, rfl, hi3, hq3⟩)) | (go_at_call 19; ((with_reducible refine (even_c nmEv11.1 nmEv11.2 _).mono ?_); rintro e w1 ⟨A4, c4, rfl, hi4, hq4⟩)) | (go_at_call 21; ((with_reducible refine (steps_c (n := 1) (l := [5]) nmEv12.1 nmEv12.2 _ ?_ (by decide)).mono ?_); (focus (refine Ints.lit2 ?_ rfl rfl; simp))); rintro e w1 ⟨A5, c5, rfl, hi5, hq5⟩) | (go_at_call 21; ((with_reducible refine (steps_c (n := 2) (l := [0, 1001]) nmEv13.1 nmEv13.2 _ ?_ (by decide)).mono ?_); (focus (refine Ints.lit2 ?_ rfl rfl; simp))); rintro e w1 ⟨A6, c6, rfl, hi6, hq6⟩) | (go_at_call 10; ((with_reducible refine (marks_c nmEv14.1 nmEv14.2 _).mono ?_); rintro e w1 ⟨A7, c7, rfl, hi7, hq7⟩)) | (go_at_call 12; ((with_reducible refine (gaps_c nmEv15.1 nmEv15.2 _).mono ?_); rintro e w1 ⟨A8, c8, rfl, hi8, hq8⟩)) | (go_at_call 14; ((with_reducible refine (words_c nmEv16.1 nmEv16.2 _).mono ?_); rintro e w1 ⟨rfl, hq9⟩; have hP := At3.new w1 (.int .i64 0) (.int .i64 0) (.int .i64 0) 29)) | (go_at_call 14; ((with_reducible refine (words_c nmEv17.1 nmEv17.2 _).mono ?_); rintro e w1 ⟨rfl, hq10⟩; have hP := At3.new w1 (.int .i64 0) (.int .i64 0) (.int .i64 0) 29)) | (go_at_call 10; ((with_reducible refine (marks_c nmEv18.1 nmEv18.2 _).mono ?_); rintro e w1 ⟨A11, c11, rfl, hi11, hq11⟩)) | (go_at_call 10; ((with_reducible refine (marks_c nmEv19.1 nmEv19.2 _).mono ?_); rintro e w1 ⟨A12, c12, rfl, hi12, hq12⟩)) | (go_at_call 14; ((with_reducible refine (words_c nmEv20.1 nmEv20.2 _).mono ?_); rintro e w1 ⟨rfl, hq13⟩; have hP := At3.new w1 (.int .i64 1) (.int .i64 1000) (.int .i64 0) 29)) | (go_at_call 21; ((with_reducible refine (steps_many (n := 1002) _ hiM (by decide) (by decide)).mono ?_); rintro e w1 ⟨A77, c77, rfl, hi77, hq77⟩)))
  go_wp2_with (first | (go_at_call 16; ((with_reducible refine (same_any _ _ _ _ A0 _ [0, 0, 6, 9] [0, 0, 6, 9] _ ?_ ?_ (by decide)).mono ?_); (focus (refine Ints.ext hi0 ?_; repeat (first | exact Ext.refl _ | assumption | refine Ext.alloc ?_ _ | refine Ext.drew ?_ | refine Ext.drewN ?_ _ | refine Ext.trans ?_ (by assumption)))); (focus (refine Ints.lit2 ?_ rfl rfl; simp))); rintro e w7 ⟨rfl, hq⟩; replace hP : At3 w7 _ _ _ _ := hP.ext (by repeat (first | exact Ext.refl _ | assumption | refine Ext.alloc ?_ _ | refine Ext.drew ?_ | refine Ext.drewN ?_ _ | refine Ext.trans ?_ (by assumption))); have hP1 := hP.2.1; have hP2 := hP.2.2.1; have hP3 := hP.2.2.2) | (go_at_call 16; ((with_reducible refine (same_any _ _ _ _ A11 _ [4] [4] _ ?_ ?_ (by decide)).mono ?_); (focus (refine Ints.ext hi11 ?_; repeat (first | exact Ext.refl _ | assumption | refine Ext.alloc ?_ _ | refine Ext.drew ?_ | refine Ext.drewN ?_ _ | refine Ext.trans ?_ (by assumption)))); (focus (refine Ints.lit2 ?_ rfl rfl; simp))); rintro e w7 ⟨rfl, hq⟩; replace hP : At3 w7 _ _ _ _ := hP.ext (by repeat (first | exact Ext.refl _ | assumption | refine Ext.alloc ?_ _ | refine Ext.drew ?_ | refine Ext.drewN ?_ _ | refine Ext.trans ?_ (by assumption))); have hP1 := hP.2.1; have hP2 := hP.2.2.1; have hP3 := hP.2.2.2) | (go_at_call 16; ((with_reducible refine (same_any _ _ _ _ A12 _ [0, 1, 2, 3] [0, 1, 2, 3] _ ?_ ?_ (by decide)).mono ?_); (focus (refine Ints.ext hi12 ?_; repeat (first | exact Ext.refl _ | assumption | refine Ext.alloc ?_ _ | refine Ext.drew ?_ | refine Ext.drewN ?_ _ | refine Ext.trans ?_ (by assumption)))); (focus (refine Ints.lit2 ?_ rfl rfl; simp))); rintro e w7 ⟨rfl, hq⟩; replace hP : At3 w7 _ _ _ _ := hP.ext (by repeat (first | exact Ext.refl _ | assumption | refine Ext.alloc ?_ _ | refine Ext.drew ?_ | refine Ext.drewN ?_ _ | refine Ext.trans ?_ (by assumption))); have hP1 := hP.2.1; have hP2 := hP.2.2.1; have hP3 := hP.2.2.2) | (go_at_call 24; ((with_reducible refine (alive_any _).mono ?_); rintro e w7 ⟨rfl, hq⟩)))
  go_ret
  exact ⟨rfl, by repeat (first | exact Ext.refl _ | assumption | refine Ext.alloc ?_ _ | refine Ext.drew ?_ | refine Ext.drewN ?_ _ | refine Ext.trans ?_ (by assumption))⟩

set_option maxRecDepth 100000 in
theorem slopeNames_lifted (os : Os) (started : os.Started) (H : Type) (enc : TypeId × Value → H) :
    ReturnsInHanded {} Try.checked os 5 .any (Rows.slopeNamesSpec.pre6 enc Try.prog Try.f5 Rows.slopeNamesRow.domain false) (Rows.slopeNamesSpec.post enc Try.prog Try.f5 false true false false) := by
  refine returnsInHanded_of_change (C := Try.checked) own started (by kernel_rfl) Try.func5
    (ChangeSpec.witness6 (enc := enc) (C := Try.checked) false ⟨#[], #[], []⟩ 8 (by kernel_rfl) (by kernel_rfl) (by kernel_rfl) (by kernel_rfl)) ?_
  intro W base args ds gs before hval0 hW hcnd _
  have hval : ∀ (j : Nat) t v, Try.f5.params[j]? = some t → args[j]? = some v → Value.okWide Try.prog W .any base t v := hval0
  have hW' := hW
  obtain ⟨p, q, hA0, hV, rfl, hfz, hnd⟩ := hW
  have hA : DataW.TrodAll enc Try.prog W 0 (fun _ => true) true Try.f5.params.toList args.toList ds p := hA0
  rw [Try.params5] at hA hval
  obtain ⟨rfl, rfl, rfl⟩ := trodAll_none hA
  obtain ⟨rfl, rfl⟩ := trodVars_none hV
  refine (slopeNames_walk  W).mono fun e W' ⟨he, hg⟩ => ?_
  subst he
  exact ⟨_, rfl, law_post laid_out rfl Try.underlying4 (by kernel_rfl) rfl hW' rfl hg⟩

theorem slopeNames_holds : Rows.SlopeNamesSaid :=
  OpenClaim.holds_of_wide 5 Try.f5 rfl rfl rfl rfl rfl rfl rfl ⟨rfl, rfl, rfl, rfl, rfl⟩ rfl rfl rfl rfl rfl (by kernel_rfl) Try.func5 (by kernel_rfl)
    (of_decide_eq_true (by kernel_rfl)) (by unfold Func.isWrapper; first | (rw [if_pos (by decide +kernel)]; kernel_rfl) | (rw [if_neg (by decide +kernel)]; exact ⟨rfl, rfl⟩))
    (fun os started H enc _ => slopeNames_lifted os started H enc)
end Go.Proofs.Ytegfmojjajoncaa
