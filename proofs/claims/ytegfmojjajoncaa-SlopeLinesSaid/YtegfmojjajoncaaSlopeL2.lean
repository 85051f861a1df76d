/- SlopeLines: whatever the numbers and the list, Line, Even and Steps return what the reference returns, and leave the list as it is. No condition. -/
import Derived.Test.YtegfmojjajoncaaOpenInts
import Derived.Test.YtegfmojjajoncaaSlopeD
namespace Go.Proofs.Ytegfmojjajoncaa
open Go.ChangeShapes Go.WideShapes Go.ChangeAt Go.RowKit Go.Joins

set_option maxRecDepth 100000 in
set_option maxHeartbeats 4000000 in
theorem slopeLines_walk (a b rows : Int) (nl cl : Nat) (Al : Option Addr) (l : List Int) (w : World) (hil : Ints w Al nl l) (hml : nl ≤ maxLen) :
    Calls Try.prog 4 #[.int .i64 a, .int .i64 b, .int .i64 rows, .slice Al nl cl] w fun e w' => e = .returned (.bool true) ∧ Ext w w' := by
  have HL1 := Lib.hid (lineL_len a b rows)
  have HL2 := Lib.hid (evenL_len a b rows)
  unfold maxLen at hml
  by_cases h : 1100 < nl
  · go_enter Try.func4, Try.ntmps4
    go_wp2_with fail
    go_ret
    exact ⟨rfl, by repeat (first | exact Ext.refl _ | assumption | refine Ext.alloc ?_ _ | refine Ext.drew ?_ | refine Ext.drewN ?_ _ | refine Ext.trans ?_ (by assumption))⟩
  have HL3 := Lib.hid (show (stepsL l).length ≤ maxLen from stepsL_len hil.1)
  have HLn := Lib.hid (show nl ≤ maxLen from hml)
  have HI := Lib.hid hil
  have HK := Lib.hid (show 0 + nl ≤ 1000000 by omega)
  clear hil
  go_enter Try.func4, Try.ntmps4
  go_wp2_with (first | (at_builtin; refine wpList_append_ints (w := w) (L := []) 22 3 rfl rfl Try.underlying22 info_int rfl rfl (OwnI.empty w 3) ((Ext.refl _).alloc _) (HI.out.ext ((Ext.refl _).alloc _)) HK.out ?_; intro v' w0 hown hext; rw [Nat.zero_add, List.nil_append] at hown; obtain ⟨A9, c9, rfl, hi9⟩ := own_ints hown; have hq9 := Hid.out hext; clear hown hext) | (go_at_call 17; ((with_reducible refine (line_any _ _ _ _).mono ?_); rintro e w1 ⟨A1, c1, rfl, hi1, hq1⟩)) | (go_at_call 18; ((with_reducible refine (rline_any _ _ _ _).mono ?_); rintro e w1 ⟨A2, c2, rfl, hi2, hq2⟩)) | (go_at_call 19; ((with_reducible refine (even_any _ _ _ _).mono ?_); rintro e w1 ⟨A3, c3, rfl, hi3, hq3⟩)) | (go_at_call 20; ((with_reducible refine (reven_any _ _ _ _).mono ?_); rintro e w1 ⟨A4, c4, rfl, hi4, hq4⟩)) | (go_at_call 21; ((with_reducible refine (steps_any _ _ _ l _ ?_ HLn.out).mono ?_); (focus (refine Ints.ext HI.out ?_; repeat (first | exact Ext.refl _ | assumption | refine Ext.alloc ?_ _ | refine Ext.drew ?_ | refine Ext.drewN ?_ _ | refine Ext.trans ?_ (by assumption))))); rintro e w1 ⟨A5, c5, rfl, hi5, hq5⟩) | (go_at_call 22; ((with_reducible refine (rsteps_any _ _ _ l _ ?_ HLn.out).mono ?_); (focus (refine Ints.ext hi9 ?_; repeat (first | exact Ext.refl _ | assumption | refine Ext.alloc ?_ _ | refine Ext.drew ?_ | refine Ext.drewN ?_ _ | refine Ext.trans ?_ (by assumption))))); rintro e w1 ⟨A6, c6, rfl, hi6, hq6⟩) | (go_at_call 16; ((with_reducible refine (same_any _ _ _ _ A1 A2 (lineL a b rows) (lineL a b rows) _ ?_ ?_ HL1.out).mono ?_); (focus (refine Ints.ext hi1 ?_; repeat (first | exact Ext.refl _ | assumption | refine Ext.alloc ?_ _ | refine Ext.drew ?_ | refine Ext.drewN ?_ _ | refine Ext.trans ?_ (by assumption)))); (focus (refine Ints.ext hi2 ?_; repeat (first | exact Ext.refl _ | assumption | refine Ext.alloc ?_ _ | refine Ext.drew ?_ | refine Ext.drewN ?_ _ | refine Ext.trans ?_ (by assumption))))); rintro e w7 ⟨rfl, hq⟩; skip) | (go_at_call 16; ((with_reducible refine (same_any _ _ _ _ A3 A4 (evenL a b rows) (evenL a b rows) _ ?_ ?_ HL2.out).mono ?_); (focus (refine Ints.ext hi3 ?_; repeat (first | exact Ext.refl _ | assumption | refine Ext.alloc ?_ _ | refine Ext.drew ?_ | refine Ext.drewN ?_ _ | refine Ext.trans ?_ (by assumption)))); (focus (refine Ints.ext hi4 ?_; repeat (first | exact Ext.refl _ | assumption | refine Ext.alloc ?_ _ | refine Ext.drew ?_ | refine Ext.drewN ?_ _ | refine Ext.trans ?_ (by assumption))))); rintro e w7 ⟨rfl, hq⟩; skip) | (go_at_call 16; ((with_reducible refine (same_any _ _ _ _ A5 A6 (stepsL l) (stepsL l) _ ?_ ?_ HL3.out).mono ?_); (focus (refine Ints.ext hi5 ?_; repeat (first | exact Ext.refl _ | assumption | refine Ext.alloc ?_ _ | refine Ext.drew ?_ | refine Ext.drewN ?_ _ | refine Ext.trans ?_ (by assumption)))); (focus (refine Ints.ext hi6 ?_; repeat (first | exact Ext.refl _ | assumption | refine Ext.alloc ?_ _ | refine Ext.drew ?_ | refine Ext.drewN ?_ _ | refine Ext.trans ?_ (by assumption))))); rintro e w7 ⟨rfl, hq⟩; skip) | (go_at_call 16; ((with_reducible refine (same_any _ _ _ _ Al A9 l l _ ?_ ?_ HLn.out).mono ?_); (focus (refine Ints.ext HI.out ?_; repeat (first | exact Ext.refl _ | assumption | refine Ext.alloc ?_ _ | refine Ext.drew ?_ | refine Ext.drewN ?_ _ | refine Ext.trans ?_ (by assumption)))); (focus (refine Ints.ext hi9 ?_; repeat (first | exact Ext.refl _ | assumption | refine Ext.alloc ?_ _ | refine Ext.drew ?_ | refine Ext.drewN ?_ _ | refine Ext.trans ?_ (by assumption))))); rintro e w7 ⟨rfl, hq⟩))
  go_ret
  exact ⟨rfl, by repeat (first | exact Ext.refl _ | assumption | refine Ext.alloc ?_ _ | refine Ext.drew ?_ | refine Ext.drewN ?_ _ | refine Ext.trans ?_ (by assumption))⟩

set_option maxRecDepth 100000 in
theorem slopeLines_lifted (os : Os) (started : os.Started) (H : Type) (enc : TypeId × Value → H) :
    ReturnsInHanded {} Try.checked os 4 .any (Rows.slopeLinesSpec.pre6 enc Try.prog Try.f4 Rows.slopeLinesRow.domain false) (Rows.slopeLinesSpec.post enc Try.prog Try.f4 false true false false) := by
  refine returnsInHanded_of_change (C := Try.checked) own started (by kernel_rfl) Try.func4
    (ChangeSpec.witness6 (enc := enc) (C := Try.checked) false ⟨#[], #[.int .i64 0, .int .i64 0, .int .i64 0, .slice none 0 0], []⟩ 8 (by kernel_rfl) (by kernel_rfl) (by kernel_rfl) (by kernel_rfl)) ?_
  intro W base args ds gs before hval0 hW hcnd _
  have hval : ∀ (j : Nat) t v, Try.f4.params[j]? = some t → args[j]? = some v → Value.okWide Try.prog W .any base t v := hval0
  have hW' := hW
  obtain ⟨p, q, hA0, hV, rfl, hfz, hnd⟩ := hW
  have hA : DataW.TrodAll enc Try.prog W 0 (fun _ => true) true Try.f4.params.toList args.toList ds p := hA0
  rw [Try.params4] at hA hval
  obtain ⟨v0, vs0, d0, ds0, p0, q0, hargs, rfl, rfl, h0, r0⟩ := trodAll_cons hA
  obtain ⟨v1, vs1, d1, ds1, p1, q1, rfl, rfl, rfl, h1, r1⟩ := trodAll_cons r0
  obtain ⟨v2, vs2, d2, ds2, p2, q2, rfl, rfl, rfl, h2, r2⟩ := trodAll_cons r1
  obtain ⟨v3, vs3, d3, ds3, p3, q3, rfl, rfl, rfl, h3, r3⟩ := trodAll_cons r2
  obtain ⟨rfl, rfl, rfl⟩ := trodAll_nil r3
  obtain rfl : args = #[v0, v1, v2, v3] := by cases args; simp_all
  obtain ⟨rfl, rfl⟩ := trodVars_none hV
  obtain ⟨a, rfl, rfl, -, -⟩ := open_int Try.underlying3 (hval 0 3 v0 rfl rfl) h0
  obtain ⟨b, rfl, rfl, -, -⟩ := open_int Try.underlying3 (hval 1 3 v1 rfl rfl) h1
  obtain ⟨rows, rfl, rfl, -, -⟩ := open_int Try.underlying3 (hval 2 3 v2 rfl rfl) h2
  obtain ⟨Al, nl, cl, l, rfl, hil, hml⟩ := open_ints_arg (hval 3 22 v3 rfl rfl) h3
  refine (slopeLines_walk a b rows nl cl Al l W hil hml).mono fun e W' ⟨he, hg⟩ => ?_
  subst he
  exact ⟨_, rfl, law_post laid_out rfl Try.underlying4 (by kernel_rfl) rfl hW' rfl hg⟩

theorem slopeLines_holds : Rows.SlopeLinesSaid :=
  OpenClaim.holds_of_wide 4 Try.f4 rfl rfl rfl rfl rfl rfl rfl ⟨rfl, rfl, rfl, rfl, rfl⟩ rfl rfl rfl rfl rfl (by kernel_rfl) Try.func4 (by kernel_rfl)
    (of_decide_eq_true (by kernel_rfl)) (by unfold Func.isWrapper; first | (rw [if_pos (by decide +kernel)]; kernel_rfl) | (rw [if_neg (by decide +kernel)]; exact ⟨rfl, rfl⟩))
    (fun os started H enc _ => slopeLines_lifted os started H enc)
end Go.Proofs.Ytegfmojjajoncaa
