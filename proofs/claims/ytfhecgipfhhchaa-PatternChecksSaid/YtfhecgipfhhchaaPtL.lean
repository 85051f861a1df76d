/- Check, Section and Grams return what the reference returns; for a pattern that is not great, and a string of at most 100 bytes. -/
import Derived.Test.YtfhecgipfhhchaaPtS
import Derived.Test.YtfhecgipfhhchaaChartT
import Derived.Test.YtfhecgipfhhchaaLaw
import Derived.ChangeMaps
namespace Go.Proofs.Ytfhecgipfhhchaa
set_option maxRecDepth 100000
set_option maxRecDepth 100000
open Go.ChangeShapes Go.WideShapes Go.ChangeAt Go.RowKit Go.Joins
set_option maxHeartbeats 16000000 in
theorem patternChecks_walk (nm : List UInt8) (g1 g2 g3 g4 : Int) (As : Option Addr) (ns cs : Nat) (st : List Stf) (Ac : Option Addr) (nc cc : Nat) (se : List Sec) (name : List UInt8) (w : World) (hs : Vec shStf w As ns st) (hsm : ns ≤ maxLen) (hc : Secs w Ac nc se) :
    Calls Try.prog 3 #[.agg #[.string ⟨nm.toArray⟩, .int .i64 g1, .int .i64 g2, .int .i64 g3, .int .i64 g4, .slice As ns cs, .slice Ac nc cc], .string ⟨name.toArray⟩] w fun e w' => e = .returned (.bool true) ∧ Ext w w' := by
  have HSV := Lib.hid hs
  have HCV := Lib.hid hc
  have HBX := Lib.hid (BoxP.start w nm g1 g2 g3 g4 As ns cs Ac nc cc)
  have HW0 := Lib.hid (show Ext w (w.alloc (.cells #[.string ⟨nm.toArray⟩, .int .i64 g1, .int .i64 g2, .int .i64 g3, .int .i64 g4, .slice As ns cs, .slice Ac nc cc] 27)) from (Ext.refl w).alloc _)
  have HGR := Lib.hid (fun (w' : World) (hx : Ext (w.alloc (.cells #[.string ⟨nm.toArray⟩, .int .i64 g1, .int .i64 g2, .int .i64 g3, .int .i64 g4, .slice As ns cs, .slice Ac nc cc] 27)) w') => pgreat_any nm g1 g2 g3 g4 As ns cs st Ac nc cc se w' (HSV.out.ext (HW0.out.trans hx)) hsm (HCV.out.ext (HW0.out.trans hx)))
  have H1 := Lib.hid (fun (h : SmallP nm ns nc st se) (w' : World) (hx : Ext (w.alloc (.cells #[.string ⟨nm.toArray⟩, .int .i64 g1, .int .i64 g2, .int .i64 g3, .int .i64 g4, .slice As ns cs, .slice Ac nc cc] 27)) w') => psec_any nm g1 g2 g3 g4 As ns cs st Ac nc cc se w' name (HSV.out.ext (HW0.out.trans hx)) (HCV.out.ext (HW0.out.trans hx)) h.2.2.1 h.2.2.2.1 h.2.2.2.2 h.1 h.2.1)
  have H2 := Lib.hid (fun (h : SmallP nm ns nc st se) (w' : World) (hx : Ext (w.alloc (.cells #[.string ⟨nm.toArray⟩, .int .i64 g1, .int .i64 g2, .int .i64 g3, .int .i64 g4, .slice As ns cs, .slice Ac nc cc] 27)) w') => rpsec_any nm g1 g2 g3 g4 As ns cs st Ac nc cc se w' name (HSV.out.ext (HW0.out.trans hx)) (HCV.out.ext (HW0.out.trans hx)) h.2.2.1 h.2.2.2.1 h.2.2.2.2 h.1 h.2.1)
  have H3 := Lib.hid (fun (h : SmallP nm ns nc st se) (w' : World) (hx : Ext (w.alloc (.cells #[.string ⟨nm.toArray⟩, .int .i64 g1, .int .i64 g2, .int .i64 g3, .int .i64 g4, .slice As ns cs, .slice Ac nc cc] 27)) w') => pgrams_any nm g1 g2 g3 g4 As ns cs st Ac nc cc se w' (HSV.out.ext (HW0.out.trans hx)) (HCV.out.ext (HW0.out.trans hx)) h.2.2.1 h.2.2.2.1 h.2.2.2.2 h.1 h.2.1)
  have H4 := Lib.hid (fun (h : SmallP nm ns nc st se) (w' : World) (hx : Ext (w.alloc (.cells #[.string ⟨nm.toArray⟩, .int .i64 g1, .int .i64 g2, .int .i64 g3, .int .i64 g4, .slice As ns cs, .slice Ac nc cc] 27)) w') => rpgrams_any nm g1 g2 g3 g4 As ns cs st Ac nc cc se w' (HSV.out.ext (HW0.out.trans hx)) (HCV.out.ext (HW0.out.trans hx)) h.2.2.1 h.2.2.2.1 h.2.2.2.2 h.1 h.2.1)
  have H5 := Lib.hid (fun (h : SmallP nm ns nc st se) (w' : World) (hx : Ext (w.alloc (.cells #[.string ⟨nm.toArray⟩, .int .i64 g1, .int .i64 g2, .int .i64 g3, .int .i64 g4, .slice As ns cs, .slice Ac nc cc] 27)) w') => pcheck_any nm g1 g2 g3 g4 As ns cs st Ac nc cc se w' (HSV.out.ext (HW0.out.trans hx)) (HCV.out.ext (HW0.out.trans hx)) h.2.2.1 h.2.2.2.1 h.2.2.2.2 h.1 h.2.1)
  have H6 := Lib.hid (fun (h : SmallP nm ns nc st se) (w' : World) (hx : Ext (w.alloc (.cells #[.string ⟨nm.toArray⟩, .int .i64 g1, .int .i64 g2, .int .i64 g3, .int .i64 g4, .slice As ns cs, .slice Ac nc cc] 27)) w') => rpcheck_any nm g1 g2 g3 g4 As ns cs st Ac nc cc se w' (HSV.out.ext (HW0.out.trans hx)) (HCV.out.ext (HW0.out.trans hx)) h.2.2.1 h.2.2.2.1 h.2.2.2.2 h.1 h.2.1)
  obtain ⟨vS, e1⟩ : ∃ v, secS nm (gerr g1 g2 g3 g4) st se name = v := ⟨_, rfl⟩
  obtain ⟨vL, e2⟩ : ∃ v, secL nm (gerr g1 g2 g3 g4) st se name = v := ⟨_, rfl⟩
  obtain ⟨vE, e3⟩ : ∃ v, secE nm (gerr g1 g2 g3 g4) st se name = v := ⟨_, rfl⟩
  obtain ⟨vG, e4⟩ : ∃ v, (if patE nm (gerr g1 g2 g3 g4) st se = 0 then gramS st st.length else 0) = v := ⟨_, rfl⟩
  obtain ⟨vP, e5⟩ : ∃ v, patE nm (gerr g1 g2 g3 g4) st se = v := ⟨_, rfl⟩
  unfold GrmR at H3 H4
  rw [e1, e2, e3] at H1 H2
  rw [e4, e5] at H3 H4
  rw [e5] at H5 H6
  clear hs hc e1 e2 e3 e4 e5
  by_cases hs : (100 : Int) < (name.length : Int)
  · go_enter Try.func3, Try.ntmps3
    go_wp2_with (first
      | (go_at_call 4; go_loud ((with_reducible refine (HGR.out _ (by repeat (first | exact Ext.refl _ | assumption | refine Ext.alloc ?_ _ | refine Ext.drew ?_ | refine Ext.drewN ?_ _ | refine Ext.trans ?_ (by assumption)))).mono ?_); rintro e w1 ⟨⟨b, rfl, hb⟩, hq1⟩; have HSM := Lib.hid hb; have HE1 := Lib.hid (by repeat (first | exact Ext.refl _ | assumption | refine Ext.alloc ?_ _ | refine Ext.drew ?_ | refine Ext.drewN ?_ _ | refine Ext.trans ?_ (by assumption)) : Ext (w.alloc (.cells #[.string ⟨nm.toArray⟩, .int .i64 g1, .int .i64 g2, .int .i64 g3, .int .i64 g4, .slice As ns cs, .slice Ac nc cc] 27)) w1); obtain ⟨x0, x1, x2, x3, x4, x5, x6, xz⟩ := (HBX.out.ext (HE1.out)).facts; clear hb; cases b)))
    all_goals (go_ret; exact ⟨rfl, HW0.out.trans HE1.out⟩)
  go_enter Try.func3, Try.ntmps3
  go_wp2_with (first
    | (go_at_call 4; go_loud ((with_reducible refine (HGR.out _ (by repeat (first | exact Ext.refl _ | assumption | refine Ext.alloc ?_ _ | refine Ext.drew ?_ | refine Ext.drewN ?_ _ | refine Ext.trans ?_ (by assumption)))).mono ?_); rintro e w1 ⟨⟨b, rfl, hb⟩, hq1⟩; have HSM := Lib.hid hb; have HE1 := Lib.hid (by repeat (first | exact Ext.refl _ | assumption | refine Ext.alloc ?_ _ | refine Ext.drew ?_ | refine Ext.drewN ?_ _ | refine Ext.trans ?_ (by assumption)) : Ext (w.alloc (.cells #[.string ⟨nm.toArray⟩, .int .i64 g1, .int .i64 g2, .int .i64 g3, .int .i64 g4, .slice As ns cs, .slice Ac nc cc] 27)) w1); obtain ⟨x0, x1, x2, x3, x4, x5, x6, xz⟩ := (HBX.out.ext (HE1.out)).facts; clear hb; cases b))
    | (go_at_call 5; go_loud ((with_reducible refine (H1.out (HSM.out (by simp)) _ (by repeat (first | exact Ext.refl _ | assumption | refine Ext.alloc ?_ _ | refine Ext.drew ?_ | refine Ext.drewN ?_ _ | refine Ext.trans ?_ (by assumption)))).mono ?_); rintro e w2 ⟨A2, n2, c2, rfl, hq2, hr2⟩; have HR2 := Lib.hid hr2; have HE2 := Lib.hid (HE1.out.trans (by repeat (first | exact Ext.refl _ | assumption | refine Ext.alloc ?_ _ | refine Ext.drew ?_ | refine Ext.drewN ?_ _ | refine Ext.trans ?_ (by assumption)) : Ext w1 w2)); have HA := Lib.hid (BoxC.start w2 vS A2 n2 c2); obtain ⟨x0, x1, x2, x3, x4, x5, x6, xz⟩ := (HBX.out.ext (HE2.out)).facts; clear hr2))
    | (go_at_call 6; go_loud ((with_reducible refine (H2.out (HSM.out (by simp)) _ (HE2.out.trans (by repeat (first | exact Ext.refl _ | assumption | refine Ext.alloc ?_ _ | refine Ext.drew ?_ | refine Ext.drewN ?_ _ | refine Ext.trans ?_ (by assumption))))).mono ?_); rintro e w3 ⟨A3, n3, c3, rfl, hq3, hr3⟩; have HR3 := Lib.hid hr3; have HQ3 := Lib.hid hq3; have HE3 := Lib.hid (HE2.out.trans (by repeat (first | exact Ext.refl _ | assumption | refine Ext.alloc ?_ _ | refine Ext.drew ?_ | refine Ext.drewN ?_ _ | refine Ext.trans ?_ (by assumption)) : Ext w2 w3)); have HB := Lib.hid (BoxC.start w3 vS A3 n3 c3); obtain ⟨x0, x1, x2, x3, x4, x5, x6, xz⟩ := (HBX.out.ext (HE3.out)).facts; clear hr3))
    | (go_at_call 7; go_loud ((with_reducible refine (H3.out (HSM.out (by simp)) _ (HE3.out.trans (by repeat (first | exact Ext.refl _ | assumption | refine Ext.alloc ?_ _ | refine Ext.drew ?_ | refine Ext.drewN ?_ _ | refine Ext.trans ?_ (by assumption))))).mono ?_); rintro e w4 ⟨rfl, hq4⟩; have HQ4 := Lib.hid hq4; have HE4 := Lib.hid (HE3.out.trans (by repeat (first | exact Ext.refl _ | assumption | refine Ext.alloc ?_ _ | refine Ext.drew ?_ | refine Ext.drewN ?_ _ | refine Ext.trans ?_ (by assumption)) : Ext w3 w4)); obtain ⟨x0, x1, x2, x3, x4, x5, x6, xz⟩ := (HBX.out.ext (HE4.out)).facts))
    | (go_at_call 8; go_loud ((with_reducible refine (H4.out (HSM.out (by simp)) _ (HE4.out.trans (by repeat (first | exact Ext.refl _ | assumption | refine Ext.alloc ?_ _ | refine Ext.drew ?_ | refine Ext.drewN ?_ _ | refine Ext.trans ?_ (by assumption))))).mono ?_); rintro e w5 ⟨rfl, hq5⟩; have HQ5 := Lib.hid hq5; have HE5 := Lib.hid (HE4.out.trans (by repeat (first | exact Ext.refl _ | assumption | refine Ext.alloc ?_ _ | refine Ext.drew ?_ | refine Ext.drewN ?_ _ | refine Ext.trans ?_ (by assumption)) : Ext w4 w5)); obtain ⟨x0, x1, x2, x3, x4, x5, x6, xz⟩ := (HBX.out.ext (HE5.out)).facts; obtain ⟨y0, y1, yz⟩ := (HA.out.ext (((HQ3.out.alloc _).trans HQ4.out).trans HQ5.out)).facts; obtain ⟨z0, z1, zz⟩ := (HB.out.ext (HQ4.out.trans HQ5.out)).facts)))
  all_goals (first
    | (go_ret; exact ⟨rfl, HW0.out.trans HE1.out⟩)
    | skip)
  have HRA := Lib.hid (HR2.out.ext (((((Ext.refl w2).alloc _).trans (HQ3.out.alloc _)).trans HQ4.out).trans HQ5.out))
  have HRB := Lib.hid (HR3.out.ext ((((Ext.refl w3).alloc _).trans HQ4.out).trans HQ5.out))
  have HA5 := Lib.hid (HA.out.ext (((HQ3.out.alloc _).trans HQ4.out).trans HQ5.out))
  have HB5 := Lib.hid (HB.out.ext (HQ4.out.trans HQ5.out))
  have HX := Lib.hid (Ext.refl w5)
  clear hq1 hq2 hq3 hq4 hq5
  go_region_held3 (fun wx => wx.cell? ⟨w.heap.size, 0, none⟩ = some (.string ⟨nm.toArray⟩) ∧ wx.cell? ⟨w.heap.size, 1, none⟩ = some (.int .i64 g1) ∧ wx.cell? ⟨w.heap.size, 2, none⟩ = some (.int .i64 g2) ∧ wx.cell? ⟨w.heap.size, 3, none⟩ = some (.int .i64 g3) ∧ wx.cell? ⟨w.heap.size, 4, none⟩ = some (.int .i64 g4) ∧ wx.cell? ⟨w.heap.size, 5, none⟩ = some (.slice As ns cs) ∧ wx.cell? ⟨w.heap.size, 6, none⟩ = some (.slice Ac nc cc) ∧ wx.cell? ⟨w2.heap.size, 0, none⟩ = some (.int .i64 vS) ∧ wx.cell? ⟨w2.heap.size, 1, none⟩ = some (.slice A2 n2 c2) ∧ wx.cell? ⟨w3.heap.size, 0, none⟩ = some (.int .i64 vS) ∧ wx.cell? ⟨w3.heap.size, 1, none⟩ = some (.slice A3 n3 c3)) (go_keep) (first
    | (go_at_call 9; ((with_reducible refine (H5.out (HSM.out (by simp)) _ (HE5.out.trans (HX.out.trans (by repeat (first | exact Ext.refl _ | assumption | refine Ext.alloc ?_ _ | refine Ext.drew ?_ | refine Ext.drewN ?_ _ | refine Ext.trans ?_ (by assumption)))))).mono ?_); rintro e w6 ⟨rfl, hq6⟩; replace HX := Lib.hid (HX.out.trans (Ext.trans (by repeat (first | exact Ext.refl _ | assumption | refine Ext.alloc ?_ _ | refine Ext.drew ?_ | refine Ext.drewN ?_ _ | refine Ext.trans ?_ (by assumption))) hq6)); clear hq6; obtain ⟨x0, x1, x2, x3, x4, x5, x6, xz⟩ := (HBX.out.ext (HE5.out.trans (HX.out : Ext w5 w6))).facts; obtain ⟨y0, y1, yz⟩ := (HA5.out.ext (HX.out : Ext w5 w6)).facts; obtain ⟨z0, z1, zz⟩ := (HB5.out.ext (HX.out : Ext w5 w6)).facts))
    | (go_at_call 10; ((with_reducible refine (H6.out (HSM.out (by simp)) _ (HE5.out.trans (HX.out.trans (by repeat (first | exact Ext.refl _ | assumption | refine Ext.alloc ?_ _ | refine Ext.drew ?_ | refine Ext.drewN ?_ _ | refine Ext.trans ?_ (by assumption)))))).mono ?_); rintro e w7 ⟨rfl, hq7⟩; replace HX := Lib.hid (HX.out.trans (Ext.trans (by repeat (first | exact Ext.refl _ | assumption | refine Ext.alloc ?_ _ | refine Ext.drew ?_ | refine Ext.drewN ?_ _ | refine Ext.trans ?_ (by assumption))) hq7)); clear hq7; obtain ⟨x0, x1, x2, x3, x4, x5, x6, xz⟩ := (HBX.out.ext (HE5.out.trans (HX.out : Ext w5 w7))).facts; obtain ⟨y0, y1, yz⟩ := (HA5.out.ext (HX.out : Ext w5 w7)).facts; obtain ⟨z0, z1, zz⟩ := (HB5.out.ext (HX.out : Ext w5 w7)).facts))
    | (go_at_call 11; ((with_reducible refine (rcsame_any vS vS A2 A3 n2 n3 c2 c3 vL vL _ (HRA.out.ext (HX.out.trans (by repeat (first | exact Ext.refl _ | assumption | refine Ext.alloc ?_ _ | refine Ext.drew ?_ | refine Ext.drewN ?_ _ | refine Ext.trans ?_ (by assumption))))) (HRB.out.ext (HX.out.trans (by repeat (first | exact Ext.refl _ | assumption | refine Ext.alloc ?_ _ | refine Ext.drew ?_ | refine Ext.drewN ?_ _ | refine Ext.trans ?_ (by assumption)))))).mono ?_); rintro e w8 ⟨rfl, hq8⟩; rw [sameC_yes]; replace HX := Lib.hid (HX.out.trans (Ext.trans (by repeat (first | exact Ext.refl _ | assumption | refine Ext.alloc ?_ _ | refine Ext.drew ?_ | refine Ext.drewN ?_ _ | refine Ext.trans ?_ (by assumption))) hq8)); clear hq8; obtain ⟨x0, x1, x2, x3, x4, x5, x6, xz⟩ := (HBX.out.ext (HE5.out.trans (HX.out : Ext w5 w8))).facts; obtain ⟨y0, y1, yz⟩ := (HA5.out.ext (HX.out : Ext w5 w8)).facts; obtain ⟨z0, z1, zz⟩ := (HB5.out.ext (HX.out : Ext w5 w8)).facts)))
  all_goals
    go_wp2_with fail
    go_ret
    exact ⟨by simp, HW0.out.trans (HE5.out.trans HX.out)⟩

set_option maxRecDepth 100000 in
theorem patternChecks_lifted (os : Os) (started : os.Started) (H : Type) (enc : TypeId × Value → H) :
    ReturnsInHanded {} Try.checked os 3 .any (Rows.patternChecksSpec.pre6 enc Try.prog Try.f3 Rows.patternChecksRow.domain false) (Rows.patternChecksSpec.post enc Try.prog Try.f3 false true false false) := by
  refine returnsInHanded_of_change (C := Try.checked) own started (by kernel_rfl) Try.func3
    (ChangeSpec.witness6 (enc := enc) (C := Try.checked) false ⟨#[], #[.agg #[.string ⟨#[]⟩, .int .i64 0, .int .i64 0, .int .i64 0, .int .i64 0, .slice none 0 0, .slice none 0 0], .string ⟨#[]⟩], []⟩ 8 (by kernel_rfl) (by kernel_rfl) (by kernel_rfl) (by kernel_rfl)) ?_
  intro W base args ds gs before hval0 hW hcnd _
  have hval : ∀ (j : Nat) t v, Try.f3.params[j]? = some t → args[j]? = some v → Value.okWide Try.prog W .any base t v := hval0
  have hW' := hW
  obtain ⟨p, q, hA0, hV, rfl, hfz, hnd⟩ := hW
  have hA : DataW.TrodAll enc Try.prog W 0 (fun _ => true) true Try.f3.params.toList args.toList ds p := hA0
  rw [Try.params3] at hA hval
  obtain ⟨v0, vs0, d0, ds0, p0, q0, hargs, rfl, rfl, h0, r0⟩ := trodAll_cons hA
  obtain ⟨v1, vs1, d1, ds1, p1, q1, rfl, rfl, rfl, h1, r1⟩ := trodAll_cons r0
  obtain ⟨rfl, rfl, rfl⟩ := trodAll_nil r1
  obtain rfl : args = #[v0, v1] := by cases args; simp_all
  obtain ⟨rfl, rfl⟩ := trodVars_none hV
  obtain ⟨nm, g1, g2, g3, g4, As, ns, cs, st, Ac, nc, cc, se, rfl, hst, hns, hse⟩ := open_pat_arg (hval 0 27 v0 rfl rfl) h0
  obtain ⟨sB, rfl, -, -, -⟩ := ChangeMaps.open_string Try.underlying9 (hval 1 9 v1 rfl rfl) h1
  obtain ⟨s, rfl⟩ : ∃ l : List UInt8, sB = ⟨l.toArray⟩ := ⟨sB.data.toList, by simp⟩
  refine (patternChecks_walk nm g1 g2 g3 g4 As ns cs st Ac nc cc se s W hst hns hse).mono fun e W' ⟨he, hg⟩ => ?_
  subst he
  exact ⟨_, rfl, law_post laid_out rfl Try.underlying4 (by kernel_rfl) rfl hW' rfl hg⟩

theorem patternChecks_holds : Rows.PatternChecksSaid :=
  OpenClaim.holds_of_wide 3 Try.f3 rfl rfl rfl rfl rfl rfl rfl ⟨rfl, rfl, rfl, rfl, rfl⟩ rfl rfl rfl rfl rfl (by kernel_rfl) Try.func3 (by kernel_rfl)
    (of_decide_eq_true (by kernel_rfl)) (by unfold Func.isWrapper; first | (rw [if_pos (by decide +kernel)]; kernel_rfl) | (rw [if_neg (by decide +kernel)]; exact ⟨rfl, rfl⟩))
    (fun os started H enc _ => patternChecks_lifted os started H enc)
end Go.Proofs.Ytfhecgipfhhchaa
