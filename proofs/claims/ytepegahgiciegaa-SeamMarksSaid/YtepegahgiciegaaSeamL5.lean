/- A marked seam is a seam, in which marks are joined to marks, and without marks it is the even seam; for any two edges and marks. -/
import Derived.Test.YtepegahgiciegaaSeamG
import Derived.Deep.QuietTactic
import Derived.BigQuiet
import Derived.Test.YtepegahgiciegaaSeamD
import Derived.Test.YtepegahgiciegaaOpenInts
import Derived.Test.YtepegahgiciegaaOpenGauge
namespace Go.Proofs.Ytepegahgiciegaa
open Go.ChangeShapes Go.WideShapes Go.ChangeAt Go.RowKit Go.Joins

theorem marked_bad {a b : Int} {n m c d : Nat} {A B : Option Addr} {am bm : List Int} (w : World) (h : mkE a b am bm ≠ 0) (hx : Ints w A n am) (hy : Ints w B m bm) (hn : n ≤ maxLen) (hm : m ≤ maxLen) :
    Calls Try.prog 19 #[.int .i64 a, .int .i64 b, .slice A n c, .slice B m d] w fun e w' => ∃ A cap, e = .returned (.tuple #[.slice A 0 cap, .int .i64 (mkE a b am bm)]) ∧ Ext w w' := by
  refine (marked_any a b n m c d A B am bm w hx hy hn hm).mono fun e w' ⟨A, cap, h1, _, h3⟩ => ⟨A, cap, ?_, h3⟩
  have h4 : mkdL a b am bm = [] := by rw [mkdL, if_neg h]
  rw [h4] at h1
  exact h1
theorem marked_ok {a b : Int} {n m c d : Nat} {A B : Option Addr} {am bm : List Int} (w : World) (h : mkE a b am bm = 0) (hx : Ints w A n am) (hy : Ints w B m bm) (hn : n ≤ maxLen) (hm : m ≤ maxLen) :
    Calls Try.prog 19 #[.int .i64 a, .int .i64 b, .slice A n c, .slice B m d] w (PrsE w (mkdL a b am bm) 0) := by
  have := marked_any a b n m c d A B am bm w hx hy hn hm
  rwa [h] at this
theorem marked_nil {a b : Int} (h : edOk a b = true) (w : World) :
    Calls Try.prog 19 #[.int .i64 a, .int .i64 b, .slice none 0 0, .slice none 0 0] w (PrsE w (joinL a b) 0) := by
  have := marked_any a b 0 0 0 0 none none [] [] w (Ints.none_ _ _) (Ints.none_ _ _) (by unfold maxLen; omega) (by unfold maxLen; omega)
  rwa [mkdL_nil, mkE_nil, edB, if_pos h] at this
theorem joinp_ok {a b : Int} (h : edOk a b = true) (w : World) : Calls Try.prog 17 #[.int .i64 a, .int .i64 b] w (PrsE w (joinL a b) 0) := by
  have := join_any a b w
  rwa [edB, if_pos h] at this
theorem mcheck_ok {a b : Int} {am bm : List Int} (h : mkE a b am bm = 0) {n c : Nat} {A : Option Addr} (w : World) (hl : Vec shPair w A n (mkdL a b am bm)) (hm : n ≤ maxLen) :
    Calls Try.prog 24 #[.slice A n c, .int .i64 a, .int .i64 b] w fun e w' => e = .returned (.int .i64 0) ∧ Ext w w' := by
  have := check_any n c A (mkdL a b am bm) a b w hl hm
  rwa [mkd_chk h] at this
theorem joinL_len2 (a b : Int) : (joinL a b).length ≤ maxLen := by
  unfold joinL maxLen; split
  · rename_i h
    have := edOk_e h
    rw [secL_len]; omega
  · simp
theorem mkdL_len2 (a b : Int) (am bm : List Int) : (mkdL a b am bm).length ≤ 100000 := by
  unfold mkdL; split
  · rename_i h
    have := mkdN_len h (am.length + 1) (Nat.le_refl _)
    have := mkE_e h
    omega
  · simp
attribute [local go_sem] run_pair_eq

set_option maxRecDepth 100000 in
set_option maxHeartbeats 8000000 in
theorem seamMarks_walk (a b : Int) (na ca : Nat) (Aa : Option Addr) (am : List Int) (w : World) (ha : Ints w Aa na am) (hma : na ≤ maxLen) (nb cb : Nat) (Ab : Option Addr) (bm : List Int) (hb : Ints w Ab nb bm) (hmb : nb ≤ maxLen) :
    Calls Try.prog 7 #[.int .i64 a, .int .i64 b, .slice Aa na ca, .slice Ab nb cb] w fun e w' => e = .returned (.bool true) ∧ Ext w w' := by
  have HA := Lib.hid ha
  have HB := Lib.hid hb
  have hm3 : (na : Int) ≤ 9223372036854775807 ∧ (nb : Int) ≤ 9223372036854775807 := by unfold maxLen at hma hmb; omega
  obtain ⟨hm4, hm5⟩ := hm3
  clear ha hb
  by_cases h1 : 60 < na
  · go_enter Try.func7, Try.ntmps7
    go_wp2_with (go_at_call 26; ((with_reducible refine (alive_any _).mono ?_); rintro e w1 ⟨rfl, hq1⟩))
    go_ret
    exact ⟨rfl, by repeat (first | exact Ext.refl _ | assumption | refine Ext.alloc ?_ _ | refine Ext.drew ?_ | refine Ext.drewN ?_ _ | refine Ext.trans ?_ (by assumption))⟩
  by_cases h2 : 60 < nb
  · go_enter Try.func7, Try.ntmps7
    go_wp2_with (go_at_call 26; ((with_reducible refine (alive_any _).mono ?_); rintro e w1 ⟨rfl, hq1⟩))
    go_ret
    exact ⟨rfl, by repeat (first | exact Ext.refl _ | assumption | refine Ext.alloc ?_ _ | refine Ext.drew ?_ | refine Ext.drewN ?_ _ | refine Ext.trans ?_ (by assumption))⟩
  by_cases hk : mkE a b am bm = 0
  case neg =>
    have hk2 : (mkE a b am bm != 0) = true := bne_iff_ne.2 hk
    have HK := Lib.hid hk
    clear hk
    generalize hE : mkE a b am bm = E at hk2
    have HE := Lib.hid hE
    clear hE
    go_enter Try.func7, Try.ntmps7
    go_wp2_with (first | (go_at_call 26; ((with_reducible refine (alive_any _).mono ?_); rintro e w1 ⟨rfl, hq1⟩)) | (go_at_call 19; ((with_reducible refine (marked_bad _ HK.out (Ints.ext HA.out hq1) (Ints.ext HB.out hq1) hma hmb).mono ?_); rintro e w2 ⟨A2, c2, rfl, hq2⟩; rw [HE.out])))
    go_ret
    exact ⟨rfl, by repeat (first | exact Ext.refl _ | assumption | refine Ext.alloc ?_ _ | refine Ext.drew ?_ | refine Ext.drewN ?_ _ | refine Ext.trans ?_ (by assumption))⟩
  have hEE := mkE_e hk
  obtain ⟨⟨a0, a1, b0, b1⟩, _, _, _, _, hab⟩ := hEE
  rw [HA.out.1, HB.out.1] at hab
  subst hab
  have HK := Lib.hid hk
  have HED := Lib.hid (edOk_i ⟨a0, a1, b0, b1⟩)
  have HJ := Lib.hid (joinL_len2 a b)
  have hN := mkdL_len2 a b am bm
  have hN2 : (mkdL a b am bm).length ≤ maxLen := by unfold maxLen; omega
  have HX := fun i (h : i < na) (p : Int × Int) => mkd_cross hk (i := i) (p := p) (by rw [HA.out.1]; exact h)
  have HF := fun i (h : i < na) => mkd_found hk (i := i) (by rw [HA.out.1]; exact h)
  have HXH := Lib.hid HX
  have HFH := Lib.hid HF
  clear hk HX HF
  go_enter Try.func7, Try.ntmps7
  go_wp2_with (first | (go_at_call 26; ((with_reducible refine (alive_any _).mono ?_); rintro e w1 ⟨rfl, hq1⟩)) | (go_at_call 19; ((with_reducible refine (marked_ok _ HK.out (Ints.ext HA.out hq1) (Ints.ext HB.out hq1) hma hmb).mono ?_); rintro e w2 ⟨A2, c2, rfl, hv2, hq2⟩)) | (go_at_call 24; ((with_reducible refine (mcheck_ok HK.out _ hv2 hN2).mono ?_); rintro e w4 ⟨rfl, hq4⟩)))
  have HV := Lib.hid hv2
  have HE4 := Lib.hid (show Ext w w4 by repeat (first | exact Ext.refl _ | assumption | refine Ext.alloc ?_ _ | refine Ext.drew ?_ | refine Ext.drewN ?_ _ | refine Ext.trans ?_ (by assumption)))
  have HE24 := Lib.hid hq4
  clear hv2 hq1 hq2 hq4
  generalize hL : mkdL a b am bm = L at *
  have HLL := Lib.hid hL
  clear hL
  generalize hNN : L.length = N at *
  go_loopw [12] (fun i wr => ∃ k : Nat, k ≤ na ∧ i = .int .i64 k ∧ Hid (Ext w4 wr)) (fun i _ => na - (intOf i).toNat)
  case atStart => exact ⟨0, by omega, rfl, Ext.refl _⟩
  case round =>
    obtain ⟨i, hi, rfl, hext⟩ := hrel
    by_cases hlt : i < na
    · obtain ⟨A1, o1, rfl, hb1, hc1⟩ := HA.out.2 (by omega)
      obtain ⟨B1, p1, rfl, hb2, hc2⟩ := HB.out.2 (by omega)
      have g1 := Lib.hid (hc1 i hlt)
      have g2 := Lib.hid (hc2 i hlt)
      have hcr := Lib.hid (HXH.out i hlt)
      obtain ⟨k0, hk0, hfd⟩ := HFH.out i hlt
      have hfd := Lib.hid hfd
      clear hc1 hc2
      generalize am.getD i 0 = u at *
      generalize bm.getD i 0 = v at *
      obtain ⟨wo, rfl⟩ : ∃ wo : World, wo = wr := ⟨_, rfl⟩
      go_wp2_with fail
      go_loopw [13, 14] (fun f j wr => ∃ k : Nat, k ≤ N ∧ j = .int .i64 k ∧ f = .int .i64 (if k0 < k then 1 else 0) ∧ Hid (Ext w4 wr)) (fun _ j _ => N - (intOf j).toNat)
      case atStart => exact ⟨0, by omega, rfl, by simp, hext⟩
      case round =>
        obtain ⟨k, hk, rfl, rfl, hextr⟩ := hrel
        have := hextr.out
        by_cases hltk : k < N
        · have hE2 : Ext w wr := by have := HE4.out; repeat (first | exact Ext.refl _ | assumption | refine Ext.alloc ?_ _ | refine Ext.drew ?_ | refine Ext.drewN ?_ _ | refine Ext.trans ?_ (by assumption))
          have d1 := (Below.cell (p := ⟨A1, o1 + i, none⟩) hE2 hb1).trans g1.out
          have d2 := (Below.cell (p := ⟨B1, p1 + i, none⟩) hE2 hb2).trans g2.out
          have hvr : Vec shPair wr A2 N L := Vec.ext HV.out (HE24.out.trans hextr.out)
          obtain ⟨A2, o2, rfl, hb3, d3, d4⟩ := Prs.at_ hvr hltk
          clear hvr
          have q0 : (0 : Int) ≤ (k : Int) := by omega
          have q1 : (k : Int) < (N : Int) := by omega
          have q2 : (0 : Int) ≤ (i : Int) := by omega
          have q3 : (i : Int) < (na : Int) := by omega
          have hcx := hcr.out (L.getD k (0, 0)) (getD_mem (by omega))
          have hfx := hfd.out k (by omega)
          clear hE2
          generalize L.getD k (0, 0) = xy at *
          obtain ⟨x, y⟩ := xy
          simp only at d3 d4 hcx
          by_cases hkk : k = k0
          · have hxy := hfx.2 hkk
            simp only [Prod.mk.injEq] at hxy
            obtain ⟨rfl, rfl⟩ := hxy
            have HI := Lib.hid (show (if k0 < k + 1 then (1 : Int) else 0) = 1 by rw [if_pos (by omega)])
            have HI0 := Lib.hid (show (if k0 < k then (1 : Int) else 0) = 0 by rw [if_neg (by omega)])
            clear hfx hcx
            rw [HI0.out]
            subst hkk
            have e1 : decide (x < x) = false := by simp
            have e2 : decide (y < y) = false := by simp
            go_wp2_with fail
            go_quiet (fail)
            go_wp2_with fail
            go_quiet (fail)
            go_wp2
            go_roundw
            case rel => exact ⟨k + 1, by omega, by go_num, by rw [HI.out], by repeat (first | exact Ext.refl _ | assumption | refine Ext.alloc ?_ _ | refine Ext.drew ?_ | refine Ext.drewN ?_ _ | refine Ext.trans ?_ (by assumption))⟩
            case measure => simp [intOf]; omega
          · have hne : ¬ ((x == u) = true ∧ (y == v) = true) := by
              rintro ⟨e1, e2⟩
              simp at e1 e2
              exact hkk (hfx.1 (by rw [e1, e2]))
            have HI := Lib.hid (show (if k0 < k + 1 then (1 : Int) else 0) = if k0 < k then 1 else 0 by
              by_cases e : k0 < k
              · rw [if_pos e, if_pos (by omega)]
              · rw [if_neg e, if_neg (by omega)])
            have hI0 : (0 : Int) ≤ (if k0 < k then 1 else 0) ∧ (if k0 < k then (1 : Int) else 0) ≤ 1 := by split <;> omega
            obtain ⟨hI1, hI2⟩ := hI0
            clear hfx
            generalize (if k0 < k then (1 : Int) else 0) = F at *
            by_cases hxu : x < u
            · have hyv := hcx.1 hxu
              clear hcx
              have e1 : decide (x < u) = true := by simp [hxu]
              have e2 : decide (y < v) = true := by simp [hyv]
              go_wp2_with fail
              go_quiet (fail)
              go_wp2_with fail
              go_quiet (fail)
              go_wp2
              all_goals first | (exfalso; exact hne (by assumption)) | (go_roundw; (case rel => exact ⟨k + 1, by omega, by go_num, by rw [HI.out], by repeat (first | exact Ext.refl _ | assumption | refine Ext.alloc ?_ _ | refine Ext.drew ?_ | refine Ext.drewN ?_ _ | refine Ext.trans ?_ (by assumption))⟩); (case measure => simp [intOf]; omega))
            · have hyv : ¬ y < v := fun h => hxu (hcx.2 h)
              clear hcx
              have e1 : decide (x < u) = false := by simp; omega
              have e2 : decide (y < v) = false := by simp; omega
              go_wp2_with fail
              go_quiet (fail)
              go_wp2_with fail
              go_quiet (fail)
              go_wp2
              all_goals first | (exfalso; exact hne (by assumption)) | (go_roundw; (case rel => exact ⟨k + 1, by omega, by go_num, by rw [HI.out], by repeat (first | exact Ext.refl _ | assumption | refine Ext.alloc ?_ _ | refine Ext.drew ?_ | refine Ext.drewN ?_ _ | refine Ext.trans ?_ (by assumption))⟩); (case measure => simp [intOf]; omega))
        · obtain rfl : k = N := by omega
          have HI0 := Lib.hid (show (if k0 < k then (1 : Int) else 0) = 1 by rw [if_pos (by omega)])
          rw [HI0.out]
          go_wp2
          go_roundw
          case rel => exact ⟨i + 1, by omega, by go_num, by repeat (first | exact Ext.refl _ | assumption | refine Ext.alloc ?_ _ | refine Ext.drew ?_ | refine Ext.drewN ?_ _ | refine Ext.trans ?_ (by assumption))⟩
          case measure => simp [intOf]; omega
    · obtain rfl : i = na := by omega
      have hEr := hext.out
      have hE2 : Ext w wr := by have := HE4.out; repeat (first | exact Ext.refl _ | assumption | refine Ext.alloc ?_ _ | refine Ext.drew ?_ | refine Ext.drewN ?_ _ | refine Ext.trans ?_ (by assumption))
      clear hext
      go_wp2_with (first | (go_at_call 19; ((with_reducible refine (marked_nil HED.out _).mono ?_); rintro e w5 ⟨A5, c5, rfl, hv5, hq5⟩)) | (go_at_call 17; ((with_reducible refine (joinp_ok HED.out _).mono ?_); rintro e w6 ⟨A6, c6, rfl, hv6, hq6⟩)) | (go_at_call 23; ((with_reducible refine (psame_any _ _ _ _ A5 A6 (joinL a b) (joinL a b) _ ?_ ?_ ?_).mono ?_); (focus (refine Vec.ext hv5 ?_; repeat (first | exact Ext.refl _ | assumption | refine Ext.alloc ?_ _ | refine Ext.drew ?_ | refine Ext.drewN ?_ _ | refine Ext.trans ?_ (by assumption)))); (focus (refine Vec.ext hv6 ?_; repeat (first | exact Ext.refl _ | assumption | refine Ext.alloc ?_ _ | refine Ext.drew ?_ | refine Ext.drewN ?_ _ | refine Ext.trans ?_ (by assumption)))); (focus (exact HJ.out)); rintro e w7 ⟨rfl, hq7⟩; rw [decide_eq_true (rfl : (joinL a b) = (joinL a b))])))
      go_ret
      exact ⟨rfl, by repeat (first | exact Ext.refl _ | assumption | refine Ext.alloc ?_ _ | refine Ext.drew ?_ | refine Ext.drewN ?_ _ | refine Ext.trans ?_ (by assumption))⟩

set_option maxRecDepth 100000 in
theorem seamMarks_lifted (os : Os) (started : os.Started) (H : Type) (enc : TypeId × Value → H) :
    ReturnsInHanded {} Try.checked os 7 .any (Rows.seamMarksSpec.pre6 enc Try.prog Try.f7 Rows.seamMarksRow.domain false) (Rows.seamMarksSpec.post enc Try.prog Try.f7 false true false false) := by
  refine returnsInHanded_of_change (C := Try.checked) own started (by kernel_rfl) Try.func7
    (ChangeSpec.witness6 (enc := enc) (C := Try.checked) false ⟨#[], #[.int .i64 0, .int .i64 0, .slice none 0 0, .slice none 0 0], []⟩ 8 (by kernel_rfl) (by kernel_rfl) (by kernel_rfl) (by kernel_rfl)) ?_
  intro W base args ds gs before hval0 hW hcnd _
  have hval : ∀ (j : Nat) t v, Try.f7.params[j]? = some t → args[j]? = some v → Value.okWide Try.prog W .any base t v := hval0
  have hW' := hW
  obtain ⟨p, q, hA0, hV, rfl, hfz, hnd⟩ := hW
  have hA : DataW.TrodAll enc Try.prog W 0 (fun _ => true) true Try.f7.params.toList args.toList ds p := hA0
  rw [Try.params7] at hA hval
  obtain ⟨v0, vs0, d0, ds0, p0, q0, hargs, rfl, rfl, h0, r0⟩ := trodAll_cons hA
  obtain ⟨v1, vs1, d1, ds1, p1, q1, rfl, rfl, rfl, h1, r1⟩ := trodAll_cons r0
  obtain ⟨v2, vs2, d2, ds2, p2, q2, rfl, rfl, rfl, h2, r2⟩ := trodAll_cons r1
  obtain ⟨v3, vs3, d3, ds3, p3, q3, rfl, rfl, rfl, h3, r3⟩ := trodAll_cons r2
  obtain ⟨rfl, rfl, rfl⟩ := trodAll_nil r3
  obtain rfl : args = #[v0, v1, v2, v3] := by cases args; simp_all
  obtain ⟨rfl, rfl⟩ := trodVars_none hV
  obtain ⟨a, rfl, rfl, -, -⟩ := open_int Try.underlying3 (hval 0 3 v0 rfl rfl) h0
  obtain ⟨b, rfl, rfl, -, -⟩ := open_int Try.underlying3 (hval 1 3 v1 rfl rfl) h1
  obtain ⟨Aam, nam, cam, am, rfl, hiam, hmam⟩ := open_ints_arg (hval 2 29 v2 rfl rfl) h2
  obtain ⟨Abm, nbm, cbm, bm, rfl, hibm, hmbm⟩ := open_ints_arg (hval 3 29 v3 rfl rfl) h3
  refine (seamMarks_walk a b nam cam Aam am W hiam hmam nbm cbm Abm bm hibm hmbm).mono fun e W' ⟨he, hg⟩ => ?_
  subst he
  exact ⟨_, rfl, law_post laid_out rfl Try.underlying4 (by kernel_rfl) rfl hW' rfl hg⟩

theorem seamMarks_holds : Rows.SeamMarksSaid :=
  OpenClaim.holds_of_wide 7 Try.f7 rfl rfl rfl rfl rfl rfl rfl ⟨rfl, rfl, rfl, rfl, rfl⟩ rfl rfl rfl rfl rfl (by kernel_rfl) Try.func7 (by kernel_rfl)
    (of_decide_eq_true (by kernel_rfl)) (by unfold Func.isWrapper; first | (rw [if_pos (by decide +kernel)]; kernel_rfl) | (rw [if_neg (by decide +kernel)]; exact ⟨rfl, rfl⟩))
    (fun os started H enc _ => seamMarks_lifted os started H enc)
end Go.Proofs.Ytepegahgiciegaa
