/- The other side of the other side of a list is the list, and it uses and makes as much; for any list of at most 60 stitches. -/
import Derived.Test.YtpcefmopoceiiaaDoorAlive
import Derived.Test.YtpcefmopoceiiaaDoorLaid
import Derived.Test.YtpcefmopoceiiaaDoorStitchR
import Derived.Test.YtpcefmopoceiiaaDoorStitchV
import Derived.Test.YtpcefmopoceiiaaDoorCards
namespace Go.Proofs.YtpcefmopoceiiaaDoor
set_option maxRecDepth 100000
open Go.ChangeShapes Go.WideShapes Go.ChangeAt Go.RowKit Go.Joins
set_option maxRecDepth 100000 in
set_option maxHeartbeats 8000000 in
theorem stitchTurns_walk (n c : Nat) (A : Option Addr) (l : List St) (w : World) (hl : Vec shSt w A n l) (hn : n ≤ maxLen) (hg : Glob w) :
    Calls Tryd.prog 4 #[.slice A n c] w fun e w' => e = .returned (.bool true) ∧ Ext w w' := by
  have HX := Lib.hid hl
  have hl' := hl.1
  have HG := Lib.hid hg
  have HB := Lib.hid (Ext.refl w)
  clear hl hg
  cases hgr : greatN n
  case true =>
    have HGR := Lib.hid hgr
    clear hgr
    go_enter Tryd.func4, Tryd.ntmps4
    go_wp2_with (first
      | (go_at_call 12; go_loud ((with_reducible refine (alive_any _ (HG.out.ext (HB.out.trans (by repeat (first | exact Ext.refl _ | refine Ext.drew ?_ | refine Ext.drewN ?_ _ | refine Ext.alloc ?_ _))))).mono ?_); rintro e w1 ⟨rfl, hq⟩; replace HB := Lib.hid (HB.out.trans (Ext.trans (by repeat (first | exact Ext.refl _ | refine Ext.drew ?_ | refine Ext.drewN ?_ _ | refine Ext.alloc ?_ _)) hq)); clear hq))
      | (go_at_call 13; go_loud ((with_reducible refine (great_any n c A _ hn).mono ?_); rintro e w1 ⟨rfl, hq⟩; replace HB := Lib.hid (HB.out.trans (Ext.trans (by repeat (first | exact Ext.refl _ | refine Ext.drew ?_ | refine Ext.drewN ?_ _ | refine Ext.alloc ?_ _)) hq)); clear hq; rw [HGR.out])))
    go_ret
    exact ⟨rfl, HB.out⟩
  case false =>
    have HGR := Lib.hid hgr
    clear hgr
    by_cases ha : allE l = 0
    · have HAL := Lib.hid ha
      have HT := Lib.hid (turn_all ha)
      obtain ⟨t1, t2, t3, t4⟩ := turn_facts (allE_e ha).2.1
      have HTT := Lib.hid t2
      have HLN := Lib.hid (turnL_len l)
      obtain ⟨T, hT⟩ : ∃ T, turnL l = T := ⟨_, rfl⟩
      rw [hT] at HT HTT HLN t3 t4
      have HTL := Lib.hid hT
      obtain ⟨U, hU⟩ : ∃ U, usL l = U := ⟨_, rfl⟩
      obtain ⟨M, hM⟩ : ∃ M, mkL l = M := ⟨_, rfl⟩
      rw [hU] at t3
      rw [hM] at t4
      have HU := Lib.hid hU
      have HM := Lib.hid hM
      have HU2 := Lib.hid t3
      have HM2 := Lib.hid t4
      have HNL := Lib.hid hl'
      clear ha t1 t2 t3 t4 hT hU hM
      go_enter Tryd.func4, Tryd.ntmps4
      go_wp2_with (first
        | (go_at_call 12; go_loud ((with_reducible refine (alive_any _ (HG.out.ext (HB.out.trans (by repeat (first | exact Ext.refl _ | refine Ext.drew ?_ | refine Ext.drewN ?_ _ | refine Ext.alloc ?_ _))))).mono ?_); rintro e w1 ⟨rfl, hq⟩; replace HB := Lib.hid (HB.out.trans (Ext.trans (by repeat (first | exact Ext.refl _ | refine Ext.drew ?_ | refine Ext.drewN ?_ _ | refine Ext.alloc ?_ _)) hq)); clear hq))
        | (go_at_call 13; go_loud ((with_reducible refine (great_any n c A _ hn).mono ?_); rintro e w1 ⟨rfl, hq⟩; replace HB := Lib.hid (HB.out.trans (Ext.trans (by repeat (first | exact Ext.refl _ | refine Ext.drew ?_ | refine Ext.drewN ?_ _ | refine Ext.alloc ?_ _)) hq)); clear hq; rw [HGR.out]))
        | (go_at_call 14; go_loud ((with_reducible refine (rall_any n c A l _ (HX.out.ext (HB.out.trans (by repeat (first | exact Ext.refl _ | refine Ext.drew ?_ | refine Ext.drewN ?_ _ | refine Ext.alloc ?_ _)))) hn).mono ?_); rintro e w1 ⟨rfl, hq⟩; replace HB := Lib.hid (HB.out.trans (Ext.trans (by repeat (first | exact Ext.refl _ | refine Ext.drew ?_ | refine Ext.drewN ?_ _ | refine Ext.alloc ?_ _)) hq)); clear hq; rw [HAL.out]))
        | (go_at_call 15; (first
          | ((with_reducible refine (turn_c n HVT.out HT.out HTT.out HNL.out).mono ?_); rintro e w1 ⟨A3, c3, rfl, hq, hv⟩; replace HVT := Lib.hid (HVT.out.ext (Ext.trans (by repeat (first | exact Ext.refl _ | refine Ext.drew ?_ | refine Ext.drewN ?_ _ | refine Ext.alloc ?_ _)) hq)); replace HB := Lib.hid (HB.out.trans (Ext.trans (by repeat (first | exact Ext.refl _ | refine Ext.drew ?_ | refine Ext.drewN ?_ _ | refine Ext.alloc ?_ _)) hq)); clear hq; have HV2 := Lib.hid hv; clear hv)
          | ((with_reducible refine (turn_c n (HX.out.ext (HB.out.trans (by repeat (first | exact Ext.refl _ | refine Ext.drew ?_ | refine Ext.drewN ?_ _ | refine Ext.alloc ?_ _)))) HAL.out HTL.out (HLN.out.trans HNL.out)).mono ?_); rintro e w1 ⟨A2, c2, rfl, hq, hv⟩; replace HB := Lib.hid (HB.out.trans (Ext.trans (by repeat (first | exact Ext.refl _ | refine Ext.drew ?_ | refine Ext.drewN ?_ _ | refine Ext.alloc ?_ _)) hq)); clear hq; have HVT := Lib.hid hv; clear hv)))
        | (go_at_call 16; go_loud ((with_reducible refine (rsame_any n n _ _ _ _ l l _ HV2.out (HX.out.ext (HB.out.trans (by repeat (first | exact Ext.refl _ | refine Ext.drew ?_ | refine Ext.drewN ?_ _ | refine Ext.alloc ?_ _)))) hn).mono ?_); rintro e w1 ⟨rfl, hq⟩; rw [show decide (l = l) = true from decide_eq_true rfl]; replace HVT := Lib.hid (HVT.out.ext (Ext.trans (by repeat (first | exact Ext.refl _ | refine Ext.drew ?_ | refine Ext.drewN ?_ _ | refine Ext.alloc ?_ _)) hq)); replace HB := Lib.hid (HB.out.trans (Ext.trans (by repeat (first | exact Ext.refl _ | refine Ext.drew ?_ | refine Ext.drewN ?_ _ | refine Ext.alloc ?_ _)) hq)); clear hq))
        | (go_at_call 10; (first
          | ((with_reducible refine (uses_c (HX.out.ext (HB.out.trans (by repeat (first | exact Ext.refl _ | refine Ext.drew ?_ | refine Ext.drewN ?_ _ | refine Ext.alloc ?_ _)))) HAL.out HU.out).mono ?_); rintro e w1 ⟨rfl, hq⟩; replace HVT := Lib.hid (HVT.out.ext (Ext.trans (by repeat (first | exact Ext.refl _ | refine Ext.drew ?_ | refine Ext.drewN ?_ _ | refine Ext.alloc ?_ _)) hq)); replace HB := Lib.hid (HB.out.trans (Ext.trans (by repeat (first | exact Ext.refl _ | refine Ext.drew ?_ | refine Ext.drewN ?_ _ | refine Ext.alloc ?_ _)) hq)); clear hq)
          | ((with_reducible refine (uses_c (HVT.out.ext (by repeat (first | exact Ext.refl _ | refine Ext.drew ?_ | refine Ext.drewN ?_ _ | refine Ext.alloc ?_ _))) HT.out HU2.out).mono ?_); rintro e w1 ⟨rfl, hq⟩; replace HVT := Lib.hid (HVT.out.ext (Ext.trans (by repeat (first | exact Ext.refl _ | refine Ext.drew ?_ | refine Ext.drewN ?_ _ | refine Ext.alloc ?_ _)) hq)); replace HB := Lib.hid (HB.out.trans (Ext.trans (by repeat (first | exact Ext.refl _ | refine Ext.drew ?_ | refine Ext.drewN ?_ _ | refine Ext.alloc ?_ _)) hq)); clear hq)))
        | (go_at_call 11; (first
          | ((with_reducible refine (makes_c (HX.out.ext (HB.out.trans (by repeat (first | exact Ext.refl _ | refine Ext.drew ?_ | refine Ext.drewN ?_ _ | refine Ext.alloc ?_ _)))) HAL.out HM.out).mono ?_); rintro e w1 ⟨rfl, hq⟩; replace HVT := Lib.hid (HVT.out.ext (Ext.trans (by repeat (first | exact Ext.refl _ | refine Ext.drew ?_ | refine Ext.drewN ?_ _ | refine Ext.alloc ?_ _)) hq)); replace HB := Lib.hid (HB.out.trans (Ext.trans (by repeat (first | exact Ext.refl _ | refine Ext.drew ?_ | refine Ext.drewN ?_ _ | refine Ext.alloc ?_ _)) hq)); clear hq)
          | ((with_reducible refine (makes_c (HVT.out.ext (by repeat (first | exact Ext.refl _ | refine Ext.drew ?_ | refine Ext.drewN ?_ _ | refine Ext.alloc ?_ _))) HT.out HM2.out).mono ?_); rintro e w1 ⟨rfl, hq⟩; replace HVT := Lib.hid (HVT.out.ext (Ext.trans (by repeat (first | exact Ext.refl _ | refine Ext.drew ?_ | refine Ext.drewN ?_ _ | refine Ext.alloc ?_ _)) hq)); replace HB := Lib.hid (HB.out.trans (Ext.trans (by repeat (first | exact Ext.refl _ | refine Ext.drew ?_ | refine Ext.drewN ?_ _ | refine Ext.alloc ?_ _)) hq)); clear hq))))
      go_ret
      exact ⟨rfl, HB.out⟩
    · obtain ⟨x, hx⟩ : ∃ x, allE l = x := ⟨_, rfl⟩
      have HAL := Lib.hid hx
      have hb : (x != 0) = true := by rw [hx] at ha; simpa using ha
      clear ha hx
      go_enter Tryd.func4, Tryd.ntmps4
      go_wp2_with (first
        | (go_at_call 12; go_loud ((with_reducible refine (alive_any _ (HG.out.ext (HB.out.trans (by repeat (first | exact Ext.refl _ | refine Ext.drew ?_ | refine Ext.drewN ?_ _ | refine Ext.alloc ?_ _))))).mono ?_); rintro e w1 ⟨rfl, hq⟩; replace HB := Lib.hid (HB.out.trans (Ext.trans (by repeat (first | exact Ext.refl _ | refine Ext.drew ?_ | refine Ext.drewN ?_ _ | refine Ext.alloc ?_ _)) hq)); clear hq))
        | (go_at_call 13; go_loud ((with_reducible refine (great_any n c A _ hn).mono ?_); rintro e w1 ⟨rfl, hq⟩; replace HB := Lib.hid (HB.out.trans (Ext.trans (by repeat (first | exact Ext.refl _ | refine Ext.drew ?_ | refine Ext.drewN ?_ _ | refine Ext.alloc ?_ _)) hq)); clear hq; rw [HGR.out]))
        | (go_at_call 14; go_loud ((with_reducible refine (rall_any n c A l _ (HX.out.ext (HB.out.trans (by repeat (first | exact Ext.refl _ | refine Ext.drew ?_ | refine Ext.drewN ?_ _ | refine Ext.alloc ?_ _)))) hn).mono ?_); rintro e w1 ⟨rfl, hq⟩; replace HB := Lib.hid (HB.out.trans (Ext.trans (by repeat (first | exact Ext.refl _ | refine Ext.drew ?_ | refine Ext.drewN ?_ _ | refine Ext.alloc ?_ _)) hq)); clear hq; rw [HAL.out])))
      go_ret
      exact ⟨rfl, HB.out⟩

set_option maxRecDepth 100000 in
theorem stitchTurns_lifted (os : Os) (started : os.Started) (H : Type) (enc : TypeId × Value → H) :
    ReturnsInHanded {} Tryd.checked os 4 .any (fun w args => (Rows.stitchTurnsSpec.pre enc Tryd.prog Tryd.f4 [] false w args ∧ laidMetH Tryd.prog [("math/bits.deBruijn32tab", Rows.laid_math_bits_deBruijn32tab), ("math/bits.deBruijn64tab", Rows.laid_math_bits_deBruijn64tab), ("internal/strconv.uint64pow10", Rows.laid_internal_strconv_uint64pow10), ("unicode/utf8.acceptRanges", Rows.laid_unicode_utf8_acceptRanges), ("strconv.ErrRange", Rows.laid_strconv_ErrRange), ("strconv.ErrSyntax", Rows.laid_strconv_ErrSyntax), ("unicode/utf8.first", Rows.laid_unicode_utf8_first)] w) ∧ sizedMet enc Tryd.prog Tryd.f4 (OpenSpec.ofChange Rows.stitchTurnsSpec) false w args)
      (Rows.stitchTurnsSpec.post enc Tryd.prog Tryd.f4 false true false false) := by
  refine returns_laid (C := Tryd.checked) (X := fun w _ => laidMetH Tryd.prog [("math/bits.deBruijn32tab", Rows.laid_math_bits_deBruijn32tab), ("math/bits.deBruijn64tab", Rows.laid_math_bits_deBruijn64tab), ("internal/strconv.uint64pow10", Rows.laid_internal_strconv_uint64pow10), ("unicode/utf8.acceptRanges", Rows.laid_unicode_utf8_acceptRanges), ("strconv.ErrRange", Rows.laid_strconv_ErrRange), ("strconv.ErrSyntax", Rows.laid_strconv_ErrSyntax), ("unicode/utf8.first", Rows.laid_unicode_utf8_first)] w) (fun _ _ _ hh h => h.of_heap hh) own started (by kernel_rfl) Tryd.func4
    (ChangeSpec.witness_shaped (enc := enc) (C := Tryd.checked) (os := os) (X := fun w _ => laidMetH Tryd.prog [("math/bits.deBruijn32tab", Rows.laid_math_bits_deBruijn32tab), ("math/bits.deBruijn64tab", Rows.laid_math_bits_deBruijn64tab), ("internal/strconv.uint64pow10", Rows.laid_internal_strconv_uint64pow10), ("unicode/utf8.acceptRanges", Rows.laid_unicode_utf8_acceptRanges), ("strconv.ErrRange", Rows.laid_strconv_ErrRange), ("strconv.ErrSyntax", Rows.laid_strconv_ErrSyntax), ("unicode/utf8.first", Rows.laid_unicode_utf8_first)] w) false (World.laidAll Tryd.prog os [("math/bits.deBruijn32tab", Rows.laid_math_bits_deBruijn32tab), ("math/bits.deBruijn64tab", Rows.laid_math_bits_deBruijn64tab), ("internal/strconv.uint64pow10", Rows.laid_internal_strconv_uint64pow10), ("unicode/utf8.acceptRanges", Rows.laid_unicode_utf8_acceptRanges), ("strconv.ErrRange", Rows.laid_strconv_ErrRange), ("strconv.ErrSyntax", Rows.laid_strconv_ErrSyntax), ("unicode/utf8.first", Rows.laid_unicode_utf8_first)]) #[.slice none 0 0] 8 (World.laidAll_os _ _ _)
      (World.shaped_of_ZipB (by kernel_rfl) (by kernel_rfl)) (by kernel_rfl) (by kernel_rfl) (by kernel_rfl)
      (by rw [MakeChecks.laidMetH_plain _ _ _ (by kernel_rfl)]; exact laidMet_laidAll _ (by kernel_rfl) (by kernel_rfl))) ?_
  intro W base args ds gs before hval0 hW hL hsh
  have hval : ∀ (j : Nat) t v, Tryd.f4.params[j]? = some t → args[j]? = some v → Value.okWide Tryd.prog W .any base t v := hval0
  have hW' := hW
  obtain ⟨p, q, hA0, hV, rfl, hfz, hnd⟩ := hW
  have hA : DataW.TrodAll enc Tryd.prog W 0 (fun _ => true) true Tryd.f4.params.toList args.toList ds p := hA0
  rw [Tryd.params4] at hA hval
  obtain ⟨v0, vs0, d0, ds0, p0, q0, hargs, rfl, rfl, h0, r0⟩ := trodAll_cons hA
  obtain ⟨rfl, rfl, rfl⟩ := trodAll_nil r0
  obtain rfl : args = #[v0] := by cases args; simp_all
  obtain ⟨rfl, rfl⟩ := trodVars_none hV
  obtain ⟨Aa, na, ca, a, rfl, hia, hma, hya⟩ := open_sts_arg (hval 0 24 v0 rfl rfl) h0
  rw [MakeChecks.laidMetH_plain _ _ _ (by kernel_rfl)] at hL
  have hG := glob_of hL hsh
  refine (stitchTurns_walk na ca Aa a W hia hma hG).mono fun e W' ⟨he, hg⟩ => ?_
  subst he
  exact ⟨_, rfl, law_post laid_out rfl Tryd.underlying4 (by kernel_rfl) rfl hW' rfl hg⟩

theorem stitchTurns_holds : Rows.StitchTurnsSaid :=
  OpenClaim.holds_of_wide 4 Tryd.f4 rfl rfl rfl rfl rfl rfl rfl ⟨rfl, rfl, rfl, rfl, rfl⟩ rfl rfl rfl rfl rfl (by kernel_rfl) Tryd.func4 (by kernel_rfl)
    (of_decide_eq_true (by kernel_rfl)) (by unfold Func.isWrapper; first | (rw [if_pos (by decide +kernel)]; kernel_rfl) | (rw [if_neg (by decide +kernel)]; exact ⟨rfl, rfl⟩))
    (fun os started H enc _ => stitchTurns_lifted os started H enc)

theorem stitchTurns_card : Rows.StitchTurnsCardSaid :=
  Claim7.holds_tied_plain_at .later [] [.data, .data, .data, .data, .sentinel, .sentinel, .pinned] true (true, "b30b9956a0e476c9c38fc7de0fb13095e71481363dba7d65da5ce99ee671de54") true
    stitchTurns_holds (fun _ h => by cases h) (by kernel_rfl) (fun _ h => by cases h) stitchTurns_row_tie rfl ⟨rfl, rfl⟩ (by kernel_rfl) rfl
    (fun f fn hf hfn => by
      obtain rfl : f = 4 := Option.some.inj ((show Tryd.prog.funcNamed "raddle/raddlelaw25.StitchTurns" = some 4 by kernel_rfl).symm.trans hf) |>.symm
      obtain rfl : fn = Tryd.f4 := (Option.some.inj (Tryd.func4.symm.trans hfn)).symm
      exact ⟨by kernel_rfl, fun j t ht => by
        rw [Tryd.params4] at ht
        have hm : t ∈ [24] := by simpa using Array.mem_of_getElem? ht
        have hall : ([24].all fun u => !Tryd.prog.wantsStandIn u) = true := by kernel_rfl
        exact (show Tryd.prog.wantsStandIn t = false by simpa using List.all_eq_true.1 hall t hm)⟩)
    (by kernel_rfl)
end Go.Proofs.YtpcefmopoceiiaaDoor
