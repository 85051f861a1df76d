/- Check, Expand and Size return what the reference returns, and the list is left as it is; for any list that is not great. -/
import Derived.Test.YtfbfkoeaihknoaaTmsH
import Derived.Test.YtfbfkoeaihknoaaLaw
namespace Go.Proofs.Ytfbfkoeaihknoaa
open Go.ChangeShapes Go.WideShapes Go.ChangeAt Go.RowKit Go.Joins
theorem exp_len {t : Tms} {n : Nat} {w : World} {A : Option Addr} (h : Vec shSt w A n (if tchkE t = 0 then t.cells else [])) : n ≤ 200 := by
  have h1 := h.1
  split at h1
  · rename_i h2
    have := (tchk_e h2).2.2.2
    omega
  · simp at h1; omega
set_option maxRecDepth 100000 in
set_option maxHeartbeats 8000000 in
theorem shortestChecks_walk (n cap : Nat) (A : Option Addr) (t : Tms) (w : World) (hv : Tv w A n t) :
    Calls Try.prog 4 #[.slice A n cap] w fun e w' => e = .returned (.bool true) ∧ Ext w w' := by
  have HV := Lib.hid hv
  clear hv
  cases hg : greatT t
  case true =>
    have HG := Lib.hid hg
    clear hg
    go_enter Try.func4, Try.ntmps4
    go_wp2_with (first | (go_at_call 7; ((with_reducible refine (great_any t A n cap _ HV.out).mono ?_); rintro e w1 ⟨rfl, hq1⟩; rw [HG.out])))
    go_ret
    exact ⟨rfl, by repeat (first | exact Ext.refl _ | assumption | refine Ext.alloc ?_ _ | refine Ext.drew ?_ | refine Ext.drewN ?_ _ | refine Ext.trans ?_ (by assumption))⟩
  have ht : t.size ≤ 5000 := by have := great_size hg; omega
  have HG := Lib.hid hg
  clear hg
  go_enter Try.func4, Try.ntmps4
  go_wp2_with (first
    | (go_at_call 7; ((with_reducible refine (great_any t A n cap _ HV.out).mono ?_); rintro e w1 ⟨rfl, hq1⟩; rw [HG.out]))
    | (go_at_call 9; ((with_reducible refine (twin_any 5000 (by omega) t ht A n cap _ (HV.out.ext (by repeat (first | exact Ext.refl _ | assumption | refine Ext.alloc ?_ _ | refine Ext.drew ?_ | refine Ext.drewN ?_ _ | refine Ext.trans ?_ (by assumption))))).mono ?_); rintro e w2 ⟨A2, n2, c2, rfl, hq2, hv2⟩; have HV2 := Lib.hid hv2; clear hv2))
    | (go_at_call 10; ((with_reducible refine (texp_any t ht A n cap _ (HV.out.ext (by repeat (first | exact Ext.refl _ | assumption | refine Ext.alloc ?_ _ | refine Ext.drew ?_ | refine Ext.drewN ?_ _ | refine Ext.trans ?_ (by assumption))))).mono ?_); rintro e w3 ⟨A3, n3, c3, rfl, hq3, hv3, hb3⟩; have HV3 := Lib.hid hv3; clear hv3 hb3))
    | (go_at_call 11; ((with_reducible refine (trexp_any t ht A n cap _ (HV.out.ext (by repeat (first | exact Ext.refl _ | assumption | refine Ext.alloc ?_ _ | refine Ext.drew ?_ | refine Ext.drewN ?_ _ | refine Ext.trans ?_ (by assumption))))).mono ?_); rintro e w4 ⟨A4, n4, c4, rfl, hq4, hv4, hb4⟩; have HV4 := Lib.hid hv4; clear hv4 hb4))
    | (go_at_call 12; ((with_reducible refine (tsize_any t ht A n cap _ (HV.out.ext (by repeat (first | exact Ext.refl _ | assumption | refine Ext.alloc ?_ _ | refine Ext.drew ?_ | refine Ext.drewN ?_ _ | refine Ext.trans ?_ (by assumption))))).mono ?_); rintro e w5 ⟨rfl, hq5⟩))
    | (go_at_call 13; ((with_reducible refine (trsize_any t ht A n cap _ (HV.out.ext (by repeat (first | exact Ext.refl _ | assumption | refine Ext.alloc ?_ _ | refine Ext.drew ?_ | refine Ext.drewN ?_ _ | refine Ext.trans ?_ (by assumption))))).mono ?_); rintro e w6 ⟨rfl, hq6⟩))
    | (go_at_call 14; ((with_reducible refine (tcheck_any t ht A n cap _ (HV.out.ext (by repeat (first | exact Ext.refl _ | assumption | refine Ext.alloc ?_ _ | refine Ext.drew ?_ | refine Ext.drewN ?_ _ | refine Ext.trans ?_ (by assumption))))).mono ?_); rintro e w7 ⟨rfl, hq7⟩))
    | (go_at_call 15; ((with_reducible refine (trcheck_any t ht A n cap _ (HV.out.ext (by repeat (first | exact Ext.refl _ | assumption | refine Ext.alloc ?_ _ | refine Ext.drew ?_ | refine Ext.drewN ?_ _ | refine Ext.trans ?_ (by assumption))))).mono ?_); rintro e w8 ⟨rfl, hq8⟩))
    | (go_at_call 16; ((with_reducible refine (rsame_any n3 n4 c3 c4 A3 A4 _ _ _ (HV3.out.ext (by repeat (first | exact Ext.refl _ | assumption | refine Ext.alloc ?_ _ | refine Ext.drew ?_ | refine Ext.drewN ?_ _ | refine Ext.trans ?_ (by assumption)))) (HV4.out.ext (by repeat (first | exact Ext.refl _ | assumption | refine Ext.alloc ?_ _ | refine Ext.drew ?_ | refine Ext.drewN ?_ _ | refine Ext.trans ?_ (by assumption)))) (by have := exp_len HV3.out; unfold maxLen; omega)).mono ?_); rintro e w9 ⟨rfl, hq9⟩))
    | (go_at_call 8; ((with_reducible refine (same_any 5000 (by omega) t ht A A2 n n2 cap c2 _ (HV.out.ext (by repeat (first | exact Ext.refl _ | assumption | refine Ext.alloc ?_ _ | refine Ext.drew ?_ | refine Ext.drewN ?_ _ | refine Ext.trans ?_ (by assumption)))) ((TvK.tv HV2.out).ext (by repeat (first | exact Ext.refl _ | assumption | refine Ext.alloc ?_ _ | refine Ext.drew ?_ | refine Ext.drewN ?_ _ | refine Ext.trans ?_ (by assumption))))).mono ?_); rintro e w10 ⟨rfl, hq10⟩)))
  go_ret
  exact ⟨by simp, by repeat (first | exact Ext.refl _ | assumption | refine Ext.alloc ?_ _ | refine Ext.drew ?_ | refine Ext.drewN ?_ _ | refine Ext.trans ?_ (by assumption))⟩

set_option maxRecDepth 100000 in
theorem shortestChecks_lifted (os : Os) (started : os.Started) (H : Type) (enc : TypeId × Value → H) :
    ReturnsInHanded {} Try.checked os 4 .any (Rows.shortestChecksSpec.pre6 enc Try.prog Try.f4 Rows.shortestChecksRow.domain false) (Rows.shortestChecksSpec.post enc Try.prog Try.f4 false true false false) := by
  refine returnsInHanded_of_change (C := Try.checked) own started (by kernel_rfl) Try.func4
    (ChangeSpec.witness6 (enc := enc) (C := Try.checked) false ⟨#[], #[.slice none 0 0], []⟩ 8 (by kernel_rfl) (by kernel_rfl) (by kernel_rfl) (by kernel_rfl)) ?_
  intro W base args ds gs before hval0 hW hcnd _
  have hval : ∀ (j : Nat) t v, Try.f4.params[j]? = some t → args[j]? = some v → Value.okWide Try.prog W .any base t v := hval0
  have hW' := hW
  obtain ⟨p, q, hA0, hV, rfl, hfz, hnd⟩ := hW
  have hA : DataW.TrodAll enc Try.prog W 0 (fun _ => true) true Try.f4.params.toList args.toList ds p := hA0
  rw [Try.params4] at hA hval
  obtain ⟨v0, vs0, d0, ds0, p0, q0, hargs, rfl, rfl, h0, r0⟩ := trodAll_cons hA
  obtain ⟨rfl, rfl, rfl⟩ := trodAll_nil r0
  obtain rfl : args = #[v0] := by cases args; simp_all
  obtain ⟨rfl, rfl⟩ := trodVars_none hV
  obtain ⟨Aa, na, ca, a, rfl, hia⟩ := open_tms_arg (hval 0 23 v0 rfl rfl) h0
  refine (shortestChecks_walk na ca Aa a W hia).mono fun e W' ⟨he, hg⟩ => ?_
  subst he
  exact ⟨_, rfl, law_post laid_out rfl Try.underlying4 (by kernel_rfl) rfl hW' rfl hg⟩

theorem shortestChecks_holds : Rows.ShortestChecksSaid :=
  OpenClaim.holds_of_wide 4 Try.f4 rfl rfl rfl rfl rfl rfl rfl ⟨rfl, rfl, rfl, rfl, rfl⟩ rfl rfl rfl rfl rfl (by kernel_rfl) Try.func4 (by kernel_rfl)
    (of_decide_eq_true (by kernel_rfl)) (by unfold Func.isWrapper; first | (rw [if_pos (by decide +kernel)]; kernel_rfl) | (rw [if_neg (by decide +kernel)]; exact ⟨rfl, rfl⟩))
    (fun os started H enc _ => shortestChecks_lifted os started H enc)
end Go.Proofs.Ytfbfkoeaihknoaa
