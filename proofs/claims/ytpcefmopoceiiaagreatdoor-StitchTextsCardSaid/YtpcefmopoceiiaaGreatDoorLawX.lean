/- Turn, Text and Parse return what the reference returns; for any list of at most 60 stitches, or too many, and a string of at most 3,500 bytes. -/
import Derived.Test.YtpcefmopoceiiaaGreatDoorRefQ
import Derived.Test.YtpcefmopoceiiaaGreatDoorLaid
import Derived.Test.YtpcefmopoceiiaaGreatDoorCards
namespace Go.Proofs.YtpcefmopoceiiaaGreatDoor
set_option maxRecDepth 100000
open Go.ChangeShapes Go.WideShapes Go.ChangeAt Go.RowKit Go.Joins
theorem turnG_len (l : List St) : (turnG l).length ≤ 200 := by
  unfold turnG
  split
  · rename_i h
    rw [turnL_len]
    exact (allE_e h).1
  · simp
theorem parseV_len (s : List UInt8) : (parseV s).length ≤ 200 := by
  cases h : parseL s with
  | none => rw [(parse_none h).2]; simp
  | some l =>
    rw [(parse_some h).2]
    exact (allE_e (parse_iff.1 h).2.1).1
set_option maxRecDepth 100000 in
set_option maxHeartbeats 8000000 in
theorem stitchTexts_walk (n c : Nat) (A : Option Addr) (l : List St) (s : List UInt8) (w : World) (hl : Vec shSt w A n l) (hn : n ≤ maxLen) (hby : Bytes l) (hg : Glob w) :
    Calls Tryz.prog 3 #[.slice A n c, .string ⟨s.toArray⟩] w fun e w' => e = .returned (.bool true) ∧ Ext w w' := by
  have HX := Lib.hid hl
  have HG := Lib.hid hg
  have HB := Lib.hid (Ext.refl w)
  clear hl hg
  cases hgr : greatN n
  case true =>
    have HGR := Lib.hid hgr
    clear hgr
    go_enter Tryz.func3, Tryz.ntmps3
    go_wp2_with (first
      | (go_at_call 4; go_loud ((with_reducible refine (great_any n c A _ hn).mono ?_); rintro e w1 ⟨rfl, hq⟩; rw [HGR.out]; replace HB := Lib.hid (HB.out.trans (Ext.trans (by repeat (first | exact Ext.refl _ | refine Ext.drew ?_ | refine Ext.drewN ?_ _ | refine Ext.alloc ?_ _)) hq)); clear hq)))
    go_ret
    exact ⟨rfl, HB.out⟩
  case false =>
    have HGR := Lib.hid hgr
    clear hgr
    by_cases hs : (3500 : Int) < (s.length : Int)
    · go_enter Tryz.func3, Tryz.ntmps3
      go_wp2_with (first
        | (go_at_call 4; go_loud ((with_reducible refine (great_any n c A _ hn).mono ?_); rintro e w1 ⟨rfl, hq⟩; rw [HGR.out]; replace HB := Lib.hid (HB.out.trans (Ext.trans (by repeat (first | exact Ext.refl _ | refine Ext.drew ?_ | refine Ext.drewN ?_ _ | refine Ext.alloc ?_ _)) hq)); clear hq)))
      go_ret
      exact ⟨rfl, HB.out⟩
    have hs9 : s.length ≤ 1000000000 := by omega
    have hlb := turnG_len l
    have hpb := parseV_len s
    obtain ⟨L, x, hT, hLB⟩ : ∃ L x, (∀ w e w', FaceR (turnG l) (allE l) w e w' → FaceR L x w e w') ∧ L.length ≤ 200 ∧ allE l = x := ⟨_, _, fun _ _ _ h => h, hlb, rfl⟩
    obtain ⟨P, y, hPR, hPX, hPB⟩ : ∃ (P : List St) (y : Int), (∀ w e w', ParseR s w e w' → ∃ (A : Option Addr) (n c : Nat), e = .returned (.tuple #[.slice A n c, .int .i64 y]) ∧ Ext w w' ∧ Vec shSt w' A n P) ∧ (∀ w e w', ParseX s w e w' → ∃ (A : Option Addr) (n c : Nat), e = .returned (.tuple #[.slice A n c, .int .i64 y]) ∧ Ext w w' ∧ Vec shSt w' A n P) ∧ P.length ≤ 200 :=
      ⟨parseV s, parseE s, (fun w e w' h => by
        obtain ⟨v, rfl, h1, h2⟩ := h
        obtain ⟨A, c, rfl, h3⟩ := own_vec h1
        exact ⟨A, _, c, rfl, h2, h3⟩), fun w e w' h => h, hpb⟩
    have HT := Lib.hid hT
    have HPR := Lib.hid hPR
    have HPX := Lib.hid hPX
    have HAX := Lib.hid hLB.2
    obtain ⟨T, hTX⟩ : ∃ T, textG l = T := ⟨_, rfl⟩
    have HTX := Lib.hid hTX
    have HLB := Lib.hid (fun (k : Nat) (h : L.length = k) => (show k ≤ maxLen by have := hLB.1; unfold maxLen; omega))
    have HPB := Lib.hid (fun (k : Nat) (h : P.length = k) => (show k ≤ maxLen by unfold maxLen; omega))
    clear hT hPR hPX hLB hPB hTX hlb hpb
    go_enter Tryz.func3, Tryz.ntmps3
    go_wp2_with (first
      | (go_at_call 4; go_loud ((with_reducible refine (great_any n c A _ hn).mono ?_); rintro e w1 ⟨rfl, hq⟩; rw [HGR.out]; replace HB := Lib.hid (HB.out.trans (Ext.trans (by repeat (first | exact Ext.refl _ | refine Ext.drew ?_ | refine Ext.drewN ?_ _ | refine Ext.alloc ?_ _)) hq)); clear hq))
      | (go_at_call 5; go_loud ((with_reducible refine (sturn_any n c A l _ (HX.out.ext (HB.out.trans (by repeat (first | exact Ext.refl _ | refine Ext.drew ?_ | refine Ext.drewN ?_ _ | refine Ext.alloc ?_ _)))) hn hby).mono ?_); intro e w1 hr; obtain ⟨A1, n1, c1, rfl, hq, hv⟩ := HT.out _ _ _ hr; clear hr; replace HB := Lib.hid (HB.out.trans (Ext.trans (by repeat (first | exact Ext.refl _ | refine Ext.drew ?_ | refine Ext.drewN ?_ _ | refine Ext.alloc ?_ _)) hq)); have HV1 := Lib.hid hv; clear hq hv))
      | (go_at_call 6; go_loud ((with_reducible refine (rturn_any n c A l _ (HX.out.ext (HB.out.trans (by repeat (first | exact Ext.refl _ | refine Ext.drew ?_ | refine Ext.drewN ?_ _ | refine Ext.alloc ?_ _)))) hn).mono ?_); intro e w1 hr; obtain ⟨A2, n2, c2, rfl, hq, hv⟩ := HT.out _ _ _ hr; clear hr; replace HV1 := Lib.hid (HV1.out.ext (Ext.trans (by repeat (first | exact Ext.refl _ | refine Ext.drew ?_ | refine Ext.drewN ?_ _ | refine Ext.alloc ?_ _)) hq)); replace HB := Lib.hid (HB.out.trans (Ext.trans (by repeat (first | exact Ext.refl _ | refine Ext.drew ?_ | refine Ext.drewN ?_ _ | refine Ext.alloc ?_ _)) hq)); have HV2 := Lib.hid hv; clear hq hv))
      | (go_at_call 7; go_loud ((with_reducible refine (stext_any n c A l _ (HX.out.ext (HB.out.trans (by repeat (first | exact Ext.refl _ | refine Ext.drew ?_ | refine Ext.drewN ?_ _ | refine Ext.alloc ?_ _)))) hn hby (HG.out.ext (HB.out.trans (by repeat (first | exact Ext.refl _ | refine Ext.drew ?_ | refine Ext.drewN ?_ _ | refine Ext.alloc ?_ _))))).mono ?_); rintro e w1 ⟨rfl, hq⟩; rw [HTX.out, HAX.out]; replace HV1 := Lib.hid (HV1.out.ext (Ext.trans (by repeat (first | exact Ext.refl _ | refine Ext.drew ?_ | refine Ext.drewN ?_ _ | refine Ext.alloc ?_ _)) hq)); replace HV2 := Lib.hid (HV2.out.ext (Ext.trans (by repeat (first | exact Ext.refl _ | refine Ext.drew ?_ | refine Ext.drewN ?_ _ | refine Ext.alloc ?_ _)) hq)); replace HB := Lib.hid (HB.out.trans (Ext.trans (by repeat (first | exact Ext.refl _ | refine Ext.drew ?_ | refine Ext.drewN ?_ _ | refine Ext.alloc ?_ _)) hq)); clear hq))
      | (go_at_call 8; go_loud ((with_reducible refine (rtext_any n c A l _ (HX.out.ext (HB.out.trans (by repeat (first | exact Ext.refl _ | refine Ext.drew ?_ | refine Ext.drewN ?_ _ | refine Ext.alloc ?_ _)))) hn).mono ?_); rintro e w1 ⟨rfl, hq⟩; rw [HTX.out, HAX.out]; replace HV1 := Lib.hid (HV1.out.ext (Ext.trans (by repeat (first | exact Ext.refl _ | refine Ext.drew ?_ | refine Ext.drewN ?_ _ | refine Ext.alloc ?_ _)) hq)); replace HV2 := Lib.hid (HV2.out.ext (Ext.trans (by repeat (first | exact Ext.refl _ | refine Ext.drew ?_ | refine Ext.drewN ?_ _ | refine Ext.alloc ?_ _)) hq)); replace HB := Lib.hid (HB.out.trans (Ext.trans (by repeat (first | exact Ext.refl _ | refine Ext.drew ?_ | refine Ext.drewN ?_ _ | refine Ext.alloc ?_ _)) hq)); clear hq))
      | (go_at_call 9; go_loud ((with_reducible refine (parse_any s hs9 _ (HG.out.ext (HB.out.trans (by repeat (first | exact Ext.refl _ | refine Ext.drew ?_ | refine Ext.drewN ?_ _ | refine Ext.alloc ?_ _))))).mono ?_); intro e w1 hr; obtain ⟨A3, n3, c3, rfl, hq, hv⟩ := HPR.out _ _ _ hr; clear hr; replace HV1 := Lib.hid (HV1.out.ext (Ext.trans (by repeat (first | exact Ext.refl _ | refine Ext.drew ?_ | refine Ext.drewN ?_ _ | refine Ext.alloc ?_ _)) hq)); replace HV2 := Lib.hid (HV2.out.ext (Ext.trans (by repeat (first | exact Ext.refl _ | refine Ext.drew ?_ | refine Ext.drewN ?_ _ | refine Ext.alloc ?_ _)) hq)); replace HB := Lib.hid (HB.out.trans (Ext.trans (by repeat (first | exact Ext.refl _ | refine Ext.drew ?_ | refine Ext.drewN ?_ _ | refine Ext.alloc ?_ _)) hq)); have HV3 := Lib.hid hv; clear hq hv))
      | (go_at_call 10; go_loud ((with_reducible refine (rparse_any s hs9 _).mono ?_); intro e w1 hr; obtain ⟨A4, n4, c4, rfl, hq, hv⟩ := HPX.out _ _ _ hr; clear hr; replace HV1 := Lib.hid (HV1.out.ext (Ext.trans (by repeat (first | exact Ext.refl _ | refine Ext.drew ?_ | refine Ext.drewN ?_ _ | refine Ext.alloc ?_ _)) hq)); replace HV2 := Lib.hid (HV2.out.ext (Ext.trans (by repeat (first | exact Ext.refl _ | refine Ext.drew ?_ | refine Ext.drewN ?_ _ | refine Ext.alloc ?_ _)) hq)); replace HV3 := Lib.hid (HV3.out.ext (Ext.trans (by repeat (first | exact Ext.refl _ | refine Ext.drew ?_ | refine Ext.drewN ?_ _ | refine Ext.alloc ?_ _)) hq)); replace HB := Lib.hid (HB.out.trans (Ext.trans (by repeat (first | exact Ext.refl _ | refine Ext.drew ?_ | refine Ext.drewN ?_ _ | refine Ext.alloc ?_ _)) hq)); have HV4 := Lib.hid hv; clear hq hv))
      | (go_at_call 11; (first | (((with_reducible refine (rsame_any n1 n2 _ _ A1 A2 L L _ HV1.out HV2.out (HLB.out n1 (Vec.len HV1.out))).mono ?_); rintro e w1 ⟨rfl, hq⟩; rw [show decide (L = L) = true from decide_eq_true rfl]; replace HV3 := Lib.hid (HV3.out.ext (Ext.trans (by repeat (first | exact Ext.refl _ | refine Ext.drew ?_ | refine Ext.drewN ?_ _ | refine Ext.alloc ?_ _)) hq)); replace HV4 := Lib.hid (HV4.out.ext (Ext.trans (by repeat (first | exact Ext.refl _ | refine Ext.drew ?_ | refine Ext.drewN ?_ _ | refine Ext.alloc ?_ _)) hq)); replace HB := Lib.hid (HB.out.trans (Ext.trans (by repeat (first | exact Ext.refl _ | refine Ext.drew ?_ | refine Ext.drewN ?_ _ | refine Ext.alloc ?_ _)) hq)); clear hq)) | (((with_reducible refine (rsame_any n3 n4 _ _ A3 A4 P P _ HV3.out HV4.out (HPB.out n3 (Vec.len HV3.out))).mono ?_); rintro e w1 ⟨rfl, hq⟩; rw [show decide (P = P) = true from decide_eq_true rfl]; replace HB := Lib.hid (HB.out.trans (Ext.trans (by repeat (first | exact Ext.refl _ | refine Ext.drew ?_ | refine Ext.drewN ?_ _ | refine Ext.alloc ?_ _)) hq)); clear hq)))))
    go_ret
    exact ⟨rfl, HB.out⟩

set_option maxRecDepth 100000 in
theorem stitchTexts_lifted (os : Os) (started : os.Started) (H : Type) (enc : TypeId × Value → H) :
    ReturnsInHanded {} Tryz.checked os 3 .any (fun w args => (Rows.stitchTextsSpec.pre enc Tryz.prog Tryz.f3 [] false w args ∧ laidMetH Tryz.prog [("math/bits.deBruijn32tab", Rows.laid_math_bits_deBruijn32tab), ("math/bits.deBruijn64tab", Rows.laid_math_bits_deBruijn64tab), ("internal/strconv.uint64pow10", Rows.laid_internal_strconv_uint64pow10), ("unicode/utf8.acceptRanges", Rows.laid_unicode_utf8_acceptRanges), ("strconv.ErrRange", Rows.laid_strconv_ErrRange), ("strconv.ErrSyntax", Rows.laid_strconv_ErrSyntax), ("unicode/utf8.first", Rows.laid_unicode_utf8_first)] w) ∧ sizedMet enc Tryz.prog Tryz.f3 (OpenSpec.ofChange Rows.stitchTextsSpec) false w args)
      (Rows.stitchTextsSpec.post enc Tryz.prog Tryz.f3 false true false false) := by
  refine returns_laid (C := Tryz.checked) (X := fun w _ => laidMetH Tryz.prog [("math/bits.deBruijn32tab", Rows.laid_math_bits_deBruijn32tab), ("math/bits.deBruijn64tab", Rows.laid_math_bits_deBruijn64tab), ("internal/strconv.uint64pow10", Rows.laid_internal_strconv_uint64pow10), ("unicode/utf8.acceptRanges", Rows.laid_unicode_utf8_acceptRanges), ("strconv.ErrRange", Rows.laid_strconv_ErrRange), ("strconv.ErrSyntax", Rows.laid_strconv_ErrSyntax), ("unicode/utf8.first", Rows.laid_unicode_utf8_first)] w) (fun _ _ _ hh h => h.of_heap hh) own started (by kernel_rfl) Tryz.func3
    (ChangeSpec.witness_shaped (enc := enc) (C := Tryz.checked) (os := os) (X := fun w _ => laidMetH Tryz.prog [("math/bits.deBruijn32tab", Rows.laid_math_bits_deBruijn32tab), ("math/bits.deBruijn64tab", Rows.laid_math_bits_deBruijn64tab), ("internal/strconv.uint64pow10", Rows.laid_internal_strconv_uint64pow10), ("unicode/utf8.acceptRanges", Rows.laid_unicode_utf8_acceptRanges), ("strconv.ErrRange", Rows.laid_strconv_ErrRange), ("strconv.ErrSyntax", Rows.laid_strconv_ErrSyntax), ("unicode/utf8.first", Rows.laid_unicode_utf8_first)] w) false (World.laidAll Tryz.prog os [("math/bits.deBruijn32tab", Rows.laid_math_bits_deBruijn32tab), ("math/bits.deBruijn64tab", Rows.laid_math_bits_deBruijn64tab), ("internal/strconv.uint64pow10", Rows.laid_internal_strconv_uint64pow10), ("unicode/utf8.acceptRanges", Rows.laid_unicode_utf8_acceptRanges), ("strconv.ErrRange", Rows.laid_strconv_ErrRange), ("strconv.ErrSyntax", Rows.laid_strconv_ErrSyntax), ("unicode/utf8.first", Rows.laid_unicode_utf8_first)]) #[.slice none 0 0, .string ⟨#[]⟩] 8 (World.laidAll_os _ _ _)
      (World.shaped_of_ZipB (by kernel_rfl) (by kernel_rfl)) (by kernel_rfl) (by kernel_rfl) (by kernel_rfl)
      (by rw [MakeChecks.laidMetH_plain _ _ _ (by kernel_rfl)]; exact laidMet_laidAll _ (by kernel_rfl) (by kernel_rfl))) ?_
  intro W base args ds gs before hval0 hW hL hsh
  have hval : ∀ (j : Nat) t v, Tryz.f3.params[j]? = some t → args[j]? = some v → Value.okWide Tryz.prog W .any base t v := hval0
  have hW' := hW
  obtain ⟨p, q, hA0, hV, rfl, hfz, hnd⟩ := hW
  have hA : DataW.TrodAll enc Tryz.prog W 0 (fun _ => true) true Tryz.f3.params.toList args.toList ds p := hA0
  rw [Tryz.params3] at hA hval
  obtain ⟨v0, vs0, d0, ds0, p0, q0, hargs, rfl, rfl, h0, r0⟩ := trodAll_cons hA
  obtain ⟨v1, vs1, d1, ds1, p1, q1, rfl, rfl, rfl, h1, r1⟩ := trodAll_cons r0
  obtain ⟨rfl, rfl, rfl⟩ := trodAll_nil r1
  obtain rfl : args = #[v0, v1] := by cases args; simp_all
  obtain ⟨rfl, rfl⟩ := trodVars_none hV
  obtain ⟨Aa, na, ca, a, rfl, hia, hma, hya⟩ := open_sts_arg (hval 0 22 v0 rfl rfl) h0
  obtain ⟨sB, rfl, -, -, -⟩ := ChangeMaps.open_string Tryz.underlying9 (hval 1 9 v1 rfl rfl) h1
  obtain ⟨s, rfl⟩ : ∃ l : List UInt8, sB = ⟨l.toArray⟩ := ⟨sB.data.toList, by simp⟩
  rw [MakeChecks.laidMetH_plain _ _ _ (by kernel_rfl)] at hL
  have hG := glob_of hL hsh
  refine (stitchTexts_walk na ca Aa a s W hia hma hya hG).mono fun e W' ⟨he, hg⟩ => ?_
  subst he
  exact ⟨_, rfl, law_post laid_out rfl Tryz.underlying4 (by kernel_rfl) rfl hW' rfl hg⟩

theorem stitchTexts_holds : Rows.StitchTextsSaid :=
  OpenClaim.holds_of_wide 3 Tryz.f3 rfl rfl rfl rfl rfl rfl rfl ⟨rfl, rfl, rfl, rfl, rfl⟩ rfl rfl rfl rfl rfl (by kernel_rfl) Tryz.func3 (by kernel_rfl)
    (of_decide_eq_true (by kernel_rfl)) (by unfold Func.isWrapper; first | (rw [if_pos (by decide +kernel)]; kernel_rfl) | (rw [if_neg (by decide +kernel)]; exact ⟨rfl, rfl⟩))
    (fun os started H enc _ => stitchTexts_lifted os started H enc)

theorem stitchTexts_card : Rows.StitchTextsCardSaid :=
  Claim7.holds_tied_plain_at .later [] [.data, .data, .data, .data, .sentinel, .sentinel, .pinned] true (true, "fe6e91f33150d2bb1891ea1fcf796b66938681c0016dcc5c75ab2669178dd4b9") true
    stitchTexts_holds (fun _ h => by cases h) (by kernel_rfl) (fun _ h => by cases h) stitchTexts_row_tie rfl ⟨rfl, rfl⟩ (by kernel_rfl) rfl
    (fun f fn hf hfn => by
      obtain rfl : f = 3 := Option.some.inj ((show Tryz.prog.funcNamed "raddle/raddlelaw25.StitchTexts" = some 3 by kernel_rfl).symm.trans hf) |>.symm
      obtain rfl : fn = Tryz.f3 := (Option.some.inj (Tryz.func3.symm.trans hfn)).symm
      exact ⟨by kernel_rfl, fun j t ht => by
        rw [Tryz.params3] at ht
        have hm : t ∈ [22, 9] := by simpa using Array.mem_of_getElem? ht
        have hall : ([22, 9].all fun u => !Tryz.prog.wantsStandIn u) = true := by kernel_rfl
        exact (show Tryz.prog.wantsStandIn t = false by simpa using List.all_eq_true.1 hall t hm)⟩)
    (by kernel_rfl)
end Go.Proofs.YtpcefmopoceiiaaGreatDoor
