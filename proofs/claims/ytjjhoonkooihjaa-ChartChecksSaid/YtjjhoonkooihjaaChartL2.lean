/- Check, Counts and Same return what the reference returns; for any charts of at most 12 rows of at most 60 cells, or too many. -/
import Derived.Test.YtjjhoonkooihjaaChartT
import Derived.Test.YtjjhoonkooihjaaLaw
namespace Go.Proofs.Ytjjhoonkooihjaa
open Go.ChangeShapes Go.WideShapes Go.ChangeAt Go.RowKit Go.Joins
theorem cnt_len {s : Int} {l : List Ro} {n : Nat} {w : World} {A : Option Addr} (h : Ints w A n (if chkC s l = 0 then cntC s l else [])) : n ≤ 101 := by
  have h1 := h.1
  split at h1
  · rename_i h2
    have := (chkC_ok h2).1
    rw [cntC_len] at h1
    omega
  · simp at h1; omega
set_option maxRecDepth 100000 in
set_option maxHeartbeats 8000000 in
theorem chartChecks_walk (s : Int) (m c : Nat) (A : Option Addr) (la : List Ro) (w : World) (ha : Rws w (fun _ => True) A m la) (t : Int) (n d : Nat) (B : Option Addr) (lb : List Ro) (hbb : Rws w (fun _ => True) B n lb) :
    Calls Try.prog 4 #[.agg #[.int .i64 s, .slice A m c], .agg #[.int .i64 t, .slice B n d]] w fun e w' => e = .returned (.bool true) ∧ Ext w w' := by
  have HA := Lib.hid ha
  have HB := Lib.hid hbb
  clear ha hbb
  have hB0 := Lib.hid (show Ext w ((w.alloc (.cells #[.int .i64 s, .slice A m c] 24)).alloc (.cells #[.int .i64 t, .slice B n d] 24)) from ((Ext.refl _).alloc _).alloc _)
  have hb : Ext ((w.alloc (.cells #[.int .i64 s, .slice A m c] 24)).alloc (.cells #[.int .i64 t, .slice B n d] 24)) ((w.alloc (.cells #[.int .i64 s, .slice A m c] 24)).alloc (.cells #[.int .i64 t, .slice B n d] 24)) := Ext.refl _
  have hlt2 : w.heap.size < w.heap.size + 1 + 1 := by omega
  obtain ⟨hc, hf, hz⟩ := hb.facts
  cases hga : greatC la
  case true =>
    have HGA := Lib.hid hga
    clear hga
    go_enter Try.func4, Try.ntmps4
    go_wp2_with (first | (go_at_call 6; ((with_reducible refine (cgreat_any s A m c la _ (HA.out.ext (hB0.out.trans (hb.trans (by repeat (first | exact Ext.refl _ | refine Ext.drew ?_ | refine Ext.drewN ?_ _ | refine Ext.alloc ?_ _)))))).mono ?_); rintro e w1 ⟨rfl, hq1⟩; replace hb := Ext.via hb hq1 (by repeat (first | exact Ext.refl _ | refine Ext.drew ?_ | refine Ext.drewN ?_ _ | refine Ext.alloc ?_ _)); rw [HGA.out]; obtain ⟨hc, hf, hz⟩ := hb.facts)))
    go_ret
    exact ⟨rfl, hB0.out.trans hb⟩
  have HGA := Lib.hid hga
  clear hga
  cases hgb : greatC lb
  case true =>
    have HGB := Lib.hid hgb
    clear hgb
    go_enter Try.func4, Try.ntmps4
    go_wp2_with (first | (go_at_call 6; (first | ((with_reducible refine (cgreat_any s A m c la _ (HA.out.ext (hB0.out.trans (hb.trans (by repeat (first | exact Ext.refl _ | refine Ext.drew ?_ | refine Ext.drewN ?_ _ | refine Ext.alloc ?_ _)))))).mono ?_); rintro e w1 ⟨rfl, hq1⟩; replace hb := Ext.via hb hq1 (by repeat (first | exact Ext.refl _ | refine Ext.drew ?_ | refine Ext.drewN ?_ _ | refine Ext.alloc ?_ _)); obtain ⟨hc, hf, hz⟩ := hb.facts; rw [HGA.out]) | ((with_reducible refine (cgreat_any t B n d lb _ (HB.out.ext (hB0.out.trans (hb.trans (by repeat (first | exact Ext.refl _ | refine Ext.drew ?_ | refine Ext.drewN ?_ _ | refine Ext.alloc ?_ _)))))).mono ?_); rintro e w2 ⟨rfl, hq2⟩; replace hb := Ext.via hb hq2 (by repeat (first | exact Ext.refl _ | refine Ext.drew ?_ | refine Ext.drewN ?_ _ | refine Ext.alloc ?_ _)); obtain ⟨hc, hf, hz⟩ := hb.facts; rw [HGB.out]))))
    go_ret
    exact ⟨rfl, hB0.out.trans hb⟩
  have HGB := Lib.hid hgb
  clear hgb
  go_enter Try.func4, Try.ntmps4
  go_wp2_with (first
    | (go_at_call 6; (first | ((with_reducible refine (cgreat_any s A m c la _ (HA.out.ext (hB0.out.trans (hb.trans (by repeat (first | exact Ext.refl _ | refine Ext.drew ?_ | refine Ext.drewN ?_ _ | refine Ext.alloc ?_ _)))))).mono ?_); rintro e w1 ⟨rfl, hq1⟩; replace hb := Ext.via hb hq1 (by repeat (first | exact Ext.refl _ | refine Ext.drew ?_ | refine Ext.drewN ?_ _ | refine Ext.alloc ?_ _)); obtain ⟨hc, hf, hz⟩ := hb.facts; rw [HGA.out]) | ((with_reducible refine (cgreat_any t B n d lb _ (HB.out.ext (hB0.out.trans (hb.trans (by repeat (first | exact Ext.refl _ | refine Ext.drew ?_ | refine Ext.drewN ?_ _ | refine Ext.alloc ?_ _)))))).mono ?_); rintro e w2 ⟨rfl, hq2⟩; replace hb := Ext.via hb hq2 (by repeat (first | exact Ext.refl _ | refine Ext.drew ?_ | refine Ext.drewN ?_ _ | refine Ext.alloc ?_ _)); obtain ⟨hc, hf, hz⟩ := hb.facts; rw [HGB.out])))
    | (go_at_call 11; ((with_reducible refine (ccounts_any s A m c la _ (HA.out.ext (hB0.out.trans (hb.trans (by repeat (first | exact Ext.refl _ | refine Ext.drew ?_ | refine Ext.drewN ?_ _ | refine Ext.alloc ?_ _)))))).mono ?_); rintro e w3 ⟨A3, n3, c3, rfl, hq3, hi3⟩; replace hb := Ext.via hb hq3 (by repeat (first | exact Ext.refl _ | refine Ext.drew ?_ | refine Ext.drewN ?_ _ | refine Ext.alloc ?_ _)); have HI3 := Lib.hid hi3; clear hi3; obtain ⟨hc, hf, hz⟩ := hb.facts))
    | (go_at_call 12; ((with_reducible refine (rccounts_any s A m c la _ (HA.out.ext (hB0.out.trans (hb.trans (by repeat (first | exact Ext.refl _ | refine Ext.drew ?_ | refine Ext.drewN ?_ _ | refine Ext.alloc ?_ _)))))).mono ?_); rintro e w4 ⟨A4, n4, c4, rfl, hq4, hi4⟩; replace hb := Ext.via hb hq4 (by repeat (first | exact Ext.refl _ | refine Ext.drew ?_ | refine Ext.drewN ?_ _ | refine Ext.alloc ?_ _)); have HI4 := Lib.hid (hi4); clear hi4; have HE34 := Lib.hid (show Ext w3 w4 by repeat (first | exact Ext.refl _ | assumption | refine Ext.alloc ?_ _ | refine Ext.drew ?_ | refine Ext.drewN ?_ _ | refine Ext.trans ?_ (by assumption))); obtain ⟨hc, hf, hz⟩ := hb.facts)))
  clear hq1 hq2 hq3 hq4
  go_region_held3 (fun w' => w'.cell? ⟨w.heap.size, 0, none⟩ = some (.int .i64 s) ∧ w'.cell? ⟨w.heap.size, 1, none⟩ = some (.slice A m c) ∧ w'.cell? ⟨w.heap.size + 1, 0, none⟩ = some (.int .i64 t) ∧ w'.cell? ⟨w.heap.size + 1, 1, none⟩ = some (.slice B n d)) (go_keep)
    ((first
      | (go_at_call 13; ((with_reducible refine (ccheck_any s A m c la _ (HA.out.ext (hB0.out.trans (hb.trans (by repeat (first | exact Ext.refl _ | refine Ext.drew ?_ | refine Ext.drewN ?_ _ | refine Ext.alloc ?_ _)))))).mono ?_); rintro e w5 ⟨rfl, hq5⟩; replace hb := Ext.via hb hq5 (by repeat (first | exact Ext.refl _ | refine Ext.drew ?_ | refine Ext.drewN ?_ _ | refine Ext.alloc ?_ _)); have HE45 := Lib.hid (show Ext w4 w5 from Ext.trans (by repeat (first | exact Ext.refl _ | refine Ext.drew ?_ | refine Ext.drewN ?_ _ | refine Ext.alloc ?_ _)) hq5); clear hq5; obtain ⟨hc, hf, hz⟩ := hb.facts))
      | (go_at_call 14; ((with_reducible refine (rccheck_any s A m c la _ (HA.out.ext (hB0.out.trans (hb.trans (by repeat (first | exact Ext.refl _ | refine Ext.drew ?_ | refine Ext.drewN ?_ _ | refine Ext.alloc ?_ _)))))).mono ?_); rintro e w6 ⟨rfl, hq6⟩; replace hb := Ext.via hb hq6 (by repeat (first | exact Ext.refl _ | refine Ext.drew ?_ | refine Ext.drewN ?_ _ | refine Ext.alloc ?_ _)); have HE46 := Lib.hid (show Ext w4 w6 from HE45.out.trans (Ext.trans (by repeat (first | exact Ext.refl _ | refine Ext.drew ?_ | refine Ext.drewN ?_ _ | refine Ext.alloc ?_ _)) hq6)); clear hq6; obtain ⟨hc, hf, hz⟩ := hb.facts))
      | (go_at_call 15; ((with_reducible refine (sameints_any n3 n4 c3 c4 A3 A4 _ _ (HI3.out.ext (HE34.out.trans (HE46.out.trans (by repeat (first | exact Ext.refl _ | refine Ext.drew ?_ | refine Ext.drewN ?_ _ | refine Ext.alloc ?_ _))))) (HI4.out.ext (HE46.out.trans (by repeat (first | exact Ext.refl _ | refine Ext.drew ?_ | refine Ext.drewN ?_ _ | refine Ext.alloc ?_ _)))) (by have := cnt_len HI3.out; unfold maxLen; omega)).mono ?_); rintro e w7 ⟨rfl, hq7⟩; replace hb := Ext.via hb hq7 (by repeat (first | exact Ext.refl _ | refine Ext.drew ?_ | refine Ext.drewN ?_ _ | refine Ext.alloc ?_ _)); obtain ⟨hc, hf, hz⟩ := hb.facts))
      | (go_at_call 16; ((with_reducible refine (csame_any s t A B m n c d la lb _ (HA.out.ext (hB0.out.trans (hb.trans (by repeat (first | exact Ext.refl _ | refine Ext.drew ?_ | refine Ext.drewN ?_ _ | refine Ext.alloc ?_ _))))) (HB.out.ext (hB0.out.trans (hb.trans (by repeat (first | exact Ext.refl _ | refine Ext.drew ?_ | refine Ext.drewN ?_ _ | refine Ext.alloc ?_ _)))))).mono ?_); rintro e w8 ⟨rfl, hq8⟩; replace hb := Ext.via hb hq8 (by repeat (first | exact Ext.refl _ | refine Ext.drew ?_ | refine Ext.drewN ?_ _ | refine Ext.alloc ?_ _)); obtain ⟨hc, hf, hz⟩ := hb.facts))
      | (go_at_call 10; ((with_reducible refine (rcsame_any s t A B m n c d la lb _ (HA.out.ext (hB0.out.trans (hb.trans (by repeat (first | exact Ext.refl _ | refine Ext.drew ?_ | refine Ext.drewN ?_ _ | refine Ext.alloc ?_ _))))) (HB.out.ext (hB0.out.trans (hb.trans (by repeat (first | exact Ext.refl _ | refine Ext.drew ?_ | refine Ext.drewN ?_ _ | refine Ext.alloc ?_ _)))))).mono ?_); rintro e w9 ⟨rfl, hq9⟩; replace hb := Ext.via hb hq9 (by repeat (first | exact Ext.refl _ | refine Ext.drew ?_ | refine Ext.drewN ?_ _ | refine Ext.alloc ?_ _)); obtain ⟨hc, hf, hz⟩ := hb.facts))))
  all_goals
    go_wp2
    go_ret
    exact ⟨by simp, hB0.out.trans hb⟩

set_option maxRecDepth 100000 in
theorem chartChecks_lifted (os : Os) (started : os.Started) (H : Type) (enc : TypeId × Value → H) :
    ReturnsInHanded {} Try.checked os 4 .any (Rows.chartChecksSpec.pre6 enc Try.prog Try.f4 Rows.chartChecksRow.domain false) (Rows.chartChecksSpec.post enc Try.prog Try.f4 false true false false) := by
  refine returnsInHanded_of_change (C := Try.checked) own started (by kernel_rfl) Try.func4
    (ChangeSpec.witness6 (enc := enc) (C := Try.checked) false ⟨#[], #[.agg #[.int .i64 0, .slice none 0 0], .agg #[.int .i64 0, .slice none 0 0]], []⟩ 8 (by kernel_rfl) (by kernel_rfl) (by kernel_rfl) (by kernel_rfl)) ?_
  intro W base args ds gs before hval0 hW hcnd _
  have hval : ∀ (j : Nat) t v, Try.f4.params[j]? = some t → args[j]? = some v → Value.okWide Try.prog W .any base t v := hval0
  have hW' := hW
  obtain ⟨p, q, hA0, hV, rfl, hfz, hnd⟩ := hW
  have hA : DataW.TrodAll enc Try.prog W 0 (fun _ => true) true Try.f4.params.toList args.toList ds p := hA0
  rw [Try.params4] at hA hval
  obtain ⟨v0, vs0, d0, ds0, p0, q0, hargs, rfl, rfl, h0, r0⟩ := trodAll_cons hA
  obtain ⟨v1, vs1, d1, ds1, p1, q1, rfl, rfl, rfl, h1, r1⟩ := trodAll_cons r0
  obtain ⟨rfl, rfl, rfl⟩ := trodAll_nil r1
  obtain rfl : args = #[v0, v1] := by cases args; simp_all
  obtain ⟨rfl, rfl⟩ := trodVars_none hV
  obtain ⟨sa, Aa, na, ca, a, rfl, hia⟩ := open_chart_arg (hval 0 24 v0 rfl rfl) h0
  obtain ⟨bs, Ab, nb, cb, b, rfl, hib⟩ := open_chart_arg (hval 1 24 v1 rfl rfl) h1
  refine (chartChecks_walk sa na ca Aa a W hia bs nb cb Ab b hib).mono fun e W' ⟨he, hg⟩ => ?_
  subst he
  exact ⟨_, rfl, law_post laid_out rfl Try.underlying4 (by kernel_rfl) rfl hW' rfl hg⟩

theorem chartChecks_holds : Rows.ChartChecksSaid :=
  OpenClaim.holds_of_wide 4 Try.f4 rfl rfl rfl rfl rfl rfl rfl ⟨rfl, rfl, rfl, rfl, rfl⟩ rfl rfl rfl rfl rfl (by kernel_rfl) Try.func4 (by kernel_rfl)
    (of_decide_eq_true (by kernel_rfl)) (by unfold Func.isWrapper; first | (rw [if_pos (by decide +kernel)]; kernel_rfl) | (rw [if_neg (by decide +kernel)]; exact ⟨rfl, rfl⟩))
    (fun os started H enc _ => chartChecks_lifted os started H enc)
end Go.Proofs.Ytjjhoonkooihjaa
