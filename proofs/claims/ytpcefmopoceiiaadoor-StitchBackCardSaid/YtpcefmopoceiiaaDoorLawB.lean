/- Parse of Text is the list, and Text of what is read is the string; for any list of at most 60 stitches, and a string of at most 3,000 bytes. -/
import Derived.Test.YtpcefmopoceiiaaDoorAlive
import Derived.Test.YtpcefmopoceiiaaDoorLaid
import Derived.Test.YtpcefmopoceiiaaDoorStitchR
import Derived.Test.YtpcefmopoceiiaaDoorStitchV
import Derived.Test.YtpcefmopoceiiaaDoorCards
namespace Go.Proofs.YtpcefmopoceiiaaDoor
set_option maxRecDepth 100000
open Go.ChangeShapes Go.WideShapes Go.ChangeAt Go.RowKit Go.Joins
set_option maxRecDepth 100000 in
set_option maxHeartbeats 8000000 in
theorem stitchBack_walk (n c : Nat) (A : Option Addr) (l : List St) (s : List UInt8) (w : World) (hl : Vec shSt w A n l) (hn : n ≤ maxLen) (hg : Glob w) :
    Calls Tryd.prog 6 #[.slice A n c, .string ⟨s.toArray⟩] w fun e w' => e = .returned (.bool true) ∧ Ext w w' := by
  have HX := Lib.hid hl
  have HNL := Lib.hid hl.1
  have HG := Lib.hid hg
  have HB := Lib.hid (Ext.refl w)
  clear hl hg
  cases hgr : greatN n
  case true =>
    have HGR := Lib.hid hgr
    clear hgr
    go_enter Tryd.func6, Tryd.ntmps6
    go_wp2_with (first
      | (go_at_call 12; go_loud ((with_reducible refine (alive_any _ (HG.out.ext (HB.out.trans (by repeat (first | exact Ext.refl _ | refine Ext.drew ?_ | refine Ext.drewN ?_ _ | refine Ext.alloc ?_ _))))).mono ?_); rintro e w1 ⟨rfl, hq⟩; replace HB := Lib.hid (HB.out.trans (Ext.trans (by repeat (first | exact Ext.refl _ | refine Ext.drew ?_ | refine Ext.drewN ?_ _ | refine Ext.alloc ?_ _)) hq)); clear hq))
      | (go_at_call 13; go_loud ((with_reducible refine (great_any n c A _ hn).mono ?_); rintro e w1 ⟨rfl, hq⟩; replace HB := Lib.hid (HB.out.trans (Ext.trans (by repeat (first | exact Ext.refl _ | refine Ext.drew ?_ | refine Ext.drewN ?_ _ | refine Ext.alloc ?_ _)) hq)); clear hq; rw [HGR.out])))
    go_ret
    exact ⟨rfl, HB.out⟩
  case false =>
    have HGR := Lib.hid hgr
    clear hgr
    by_cases hs : (3000 : Int) < (s.length : Int)
    · go_enter Tryd.func6, Tryd.ntmps6
      go_wp2_with (first
        | (go_at_call 12; go_loud ((with_reducible refine (alive_any _ (HG.out.ext (HB.out.trans (by repeat (first | exact Ext.refl _ | refine Ext.drew ?_ | refine Ext.drewN ?_ _ | refine Ext.alloc ?_ _))))).mono ?_); rintro e w1 ⟨rfl, hq⟩; replace HB := Lib.hid (HB.out.trans (Ext.trans (by repeat (first | exact Ext.refl _ | refine Ext.drew ?_ | refine Ext.drewN ?_ _ | refine Ext.alloc ?_ _)) hq)); clear hq))
        | (go_at_call 13; go_loud ((with_reducible refine (great_any n c A _ hn).mono ?_); rintro e w1 ⟨rfl, hq⟩; replace HB := Lib.hid (HB.out.trans (Ext.trans (by repeat (first | exact Ext.refl _ | refine Ext.drew ?_ | refine Ext.drewN ?_ _ | refine Ext.alloc ?_ _)) hq)); clear hq; rw [HGR.out])))
      go_ret
      exact ⟨rfl, HB.out⟩
    have hs9 : s.length ≤ 1000000000 := by omega
    by_cases ha : allE l = 0
    · have HAL := Lib.hid ha
      have HPT0 := Lib.hid (parse_text ha)
      obtain ⟨T, hT⟩ : ∃ T, textL l = T := ⟨_, rfl⟩
      have HT1 := Lib.hid hT
      have HPT := Lib.hid (show parseL T = some l by rw [← hT]; exact HPT0.out)
      clear ha hT HPT0
      cases hp : parseL s
      case none =>
        have HP := Lib.hid hp
        clear hp
        go_enter Tryd.func6, Tryd.ntmps6
        go_wp2_with (first
          | (go_at_call 12; go_loud ((with_reducible refine (alive_any _ (HG.out.ext (HB.out.trans (by repeat (first | exact Ext.refl _ | refine Ext.drew ?_ | refine Ext.drewN ?_ _ | refine Ext.alloc ?_ _))))).mono ?_); rintro e w1 ⟨rfl, hq⟩; replace HB := Lib.hid (HB.out.trans (Ext.trans (by repeat (first | exact Ext.refl _ | refine Ext.drew ?_ | refine Ext.drewN ?_ _ | refine Ext.alloc ?_ _)) hq)); clear hq))
          | (go_at_call 13; go_loud ((with_reducible refine (great_any n c A _ hn).mono ?_); rintro e w1 ⟨rfl, hq⟩; replace HB := Lib.hid (HB.out.trans (Ext.trans (by repeat (first | exact Ext.refl _ | refine Ext.drew ?_ | refine Ext.drewN ?_ _ | refine Ext.alloc ?_ _)) hq)); clear hq; rw [HGR.out]))
          | (go_at_call 14; (first | ((with_reducible refine (rall_any n c A l _ (HX.out.ext (HB.out.trans (by repeat (first | exact Ext.refl _ | refine Ext.drew ?_ | refine Ext.drewN ?_ _ | refine Ext.alloc ?_ _)))) hn).mono ?_); rintro e w1 ⟨rfl, hq⟩; replace HB := Lib.hid (HB.out.trans (Ext.trans (by repeat (first | exact Ext.refl _ | refine Ext.drew ?_ | refine Ext.drewN ?_ _ | refine Ext.alloc ?_ _)) hq)); clear hq; rw [HAL.out])))
          | (go_at_call 17; (first | ((with_reducible refine (stext_c (HX.out.ext (HB.out.trans (by repeat (first | exact Ext.refl _ | refine Ext.drew ?_ | refine Ext.drewN ?_ _ | refine Ext.alloc ?_ _)))) HAL.out HT1.out (HG.out.ext (HB.out.trans (by repeat (first | exact Ext.refl _ | refine Ext.drew ?_ | refine Ext.drewN ?_ _ | refine Ext.alloc ?_ _))))).mono ?_); rintro e w1 ⟨rfl, hq⟩; replace HB := Lib.hid (HB.out.trans (Ext.trans (by repeat (first | exact Ext.refl _ | refine Ext.drew ?_ | refine Ext.drewN ?_ _ | refine Ext.alloc ?_ _)) hq)); clear hq)))
          | (go_at_call 9; (first | ((with_reducible refine (parse_c n HPT.out HNL.out (HG.out.ext (HB.out.trans (by repeat (first | exact Ext.refl _ | refine Ext.drew ?_ | refine Ext.drewN ?_ _ | refine Ext.alloc ?_ _))))).mono ?_); rintro e w1 ⟨A2, c2, rfl, hq, hv⟩; replace HB := Lib.hid (HB.out.trans (Ext.trans (by repeat (first | exact Ext.refl _ | refine Ext.drew ?_ | refine Ext.drewN ?_ _ | refine Ext.alloc ?_ _)) hq)); clear hq; have HVT := Lib.hid (Vec.of_own hv); clear hv) | ((with_reducible refine (parse_x HP.out hs9 (HG.out.ext (HB.out.trans (by repeat (first | exact Ext.refl _ | refine Ext.drew ?_ | refine Ext.drewN ?_ _ | refine Ext.alloc ?_ _))))).mono ?_); rintro e w1 ⟨A3, c3, rfl, hq⟩; replace HB := Lib.hid (HB.out.trans (Ext.trans (by repeat (first | exact Ext.refl _ | refine Ext.drew ?_ | refine Ext.drewN ?_ _ | refine Ext.alloc ?_ _)) hq)); clear hq)))
          | (go_at_call 16; go_loud ((with_reducible refine (rsame_any n n _ _ _ _ l l _ (HX.out.ext (HB.out.trans (by repeat (first | exact Ext.refl _ | refine Ext.drew ?_ | refine Ext.drewN ?_ _ | refine Ext.alloc ?_ _)))) HVT.out hn).mono ?_); rintro e w1 ⟨rfl, hq⟩; replace HB := Lib.hid (HB.out.trans (Ext.trans (by repeat (first | exact Ext.refl _ | refine Ext.drew ?_ | refine Ext.drewN ?_ _ | refine Ext.alloc ?_ _)) hq)); clear hq; rw [show decide (l = l) = true from decide_eq_true rfl])))
        go_ret
        exact ⟨rfl, HB.out⟩
      case some L =>
        obtain ⟨g1, g2, g3⟩ := parse_iff.1 hp
        have HP := Lib.hid hp
        have HQ1 := Lib.hid g2
        have HQ2 := Lib.hid g3
        obtain ⟨q, hq3⟩ : ∃ q, L.length = q := ⟨_, rfl⟩
        have HQ3 := Lib.hid hq3
        clear hp g1 g2 g3 hq3
        go_enter Tryd.func6, Tryd.ntmps6
        go_wp2_with (first
          | (go_at_call 12; go_loud ((with_reducible refine (alive_any _ (HG.out.ext (HB.out.trans (by repeat (first | exact Ext.refl _ | refine Ext.drew ?_ | refine Ext.drewN ?_ _ | refine Ext.alloc ?_ _))))).mono ?_); rintro e w1 ⟨rfl, hq⟩; replace HB := Lib.hid (HB.out.trans (Ext.trans (by repeat (first | exact Ext.refl _ | refine Ext.drew ?_ | refine Ext.drewN ?_ _ | refine Ext.alloc ?_ _)) hq)); clear hq))
          | (go_at_call 13; go_loud ((with_reducible refine (great_any n c A _ hn).mono ?_); rintro e w1 ⟨rfl, hq⟩; replace HB := Lib.hid (HB.out.trans (Ext.trans (by repeat (first | exact Ext.refl _ | refine Ext.drew ?_ | refine Ext.drewN ?_ _ | refine Ext.alloc ?_ _)) hq)); clear hq; rw [HGR.out]))
          | (go_at_call 14; (first | ((with_reducible refine (rall_any q _ _ L _ HV2.out (len_e HV2.out HQ1.out)).mono ?_); rintro e w1 ⟨rfl, hq⟩; rw [HQ1.out]; replace HB := Lib.hid (HB.out.trans (Ext.trans (by repeat (first | exact Ext.refl _ | refine Ext.drew ?_ | refine Ext.drewN ?_ _ | refine Ext.alloc ?_ _)) hq)); clear hq) | ((with_reducible refine (rall_any n c A l _ (HX.out.ext (HB.out.trans (by repeat (first | exact Ext.refl _ | refine Ext.drew ?_ | refine Ext.drewN ?_ _ | refine Ext.alloc ?_ _)))) hn).mono ?_); rintro e w1 ⟨rfl, hq⟩; rw [HAL.out]; replace HB := Lib.hid (HB.out.trans (Ext.trans (by repeat (first | exact Ext.refl _ | refine Ext.drew ?_ | refine Ext.drewN ?_ _ | refine Ext.alloc ?_ _)) hq)); clear hq)))
          | (go_at_call 17; (first | ((with_reducible refine (stext_c HV2.out HQ1.out HQ2.out (HG.out.ext (HB.out.trans (by repeat (first | exact Ext.refl _ | refine Ext.drew ?_ | refine Ext.drewN ?_ _ | refine Ext.alloc ?_ _))))).mono ?_); rintro e w1 ⟨rfl, hq⟩; replace HV2 := Lib.hid (HV2.out.ext hq); replace HB := Lib.hid (HB.out.trans (Ext.trans (by repeat (first | exact Ext.refl _ | refine Ext.drew ?_ | refine Ext.drewN ?_ _ | refine Ext.alloc ?_ _)) hq)); clear hq) | ((with_reducible refine (stext_c (HX.out.ext (HB.out.trans (by repeat (first | exact Ext.refl _ | refine Ext.drew ?_ | refine Ext.drewN ?_ _ | refine Ext.alloc ?_ _)))) HAL.out HT1.out (HG.out.ext (HB.out.trans (by repeat (first | exact Ext.refl _ | refine Ext.drew ?_ | refine Ext.drewN ?_ _ | refine Ext.alloc ?_ _))))).mono ?_); rintro e w1 ⟨rfl, hq⟩; replace HB := Lib.hid (HB.out.trans (Ext.trans (by repeat (first | exact Ext.refl _ | refine Ext.drew ?_ | refine Ext.drewN ?_ _ | refine Ext.alloc ?_ _)) hq)); clear hq)))
          | (go_at_call 9; (first | ((with_reducible refine (parse_c n HPT.out HNL.out (HG.out.ext (HB.out.trans (by repeat (first | exact Ext.refl _ | refine Ext.drew ?_ | refine Ext.drewN ?_ _ | refine Ext.alloc ?_ _))))).mono ?_); rintro e w1 ⟨A2, c2, rfl, hq, hv⟩; replace HB := Lib.hid (HB.out.trans (Ext.trans (by repeat (first | exact Ext.refl _ | refine Ext.drew ?_ | refine Ext.drewN ?_ _ | refine Ext.alloc ?_ _)) hq)); clear hq; have HVT := Lib.hid (Vec.of_own hv); clear hv) | ((with_reducible refine (parse_c q HP.out HQ3.out (HG.out.ext (HB.out.trans (by repeat (first | exact Ext.refl _ | refine Ext.drew ?_ | refine Ext.drewN ?_ _ | refine Ext.alloc ?_ _))))).mono ?_); rintro e w1 ⟨A3, c3, rfl, hq, hv⟩; replace HB := Lib.hid (HB.out.trans (Ext.trans (by repeat (first | exact Ext.refl _ | refine Ext.drew ?_ | refine Ext.drewN ?_ _ | refine Ext.alloc ?_ _)) hq)); clear hq; have HV2 := Lib.hid (Vec.of_own hv); clear hv)))
          | (go_at_call 16; go_loud ((with_reducible refine (rsame_any n n _ _ _ _ l l _ (HX.out.ext (HB.out.trans (by repeat (first | exact Ext.refl _ | refine Ext.drew ?_ | refine Ext.drewN ?_ _ | refine Ext.alloc ?_ _)))) HVT.out hn).mono ?_); rintro e w1 ⟨rfl, hq⟩; replace HB := Lib.hid (HB.out.trans (Ext.trans (by repeat (first | exact Ext.refl _ | refine Ext.drew ?_ | refine Ext.drewN ?_ _ | refine Ext.alloc ?_ _)) hq)); clear hq; rw [show decide (l = l) = true from decide_eq_true rfl])))
        go_ret
        exact ⟨rfl, HB.out⟩
    · obtain ⟨x, hx⟩ : ∃ x, allE l = x := ⟨_, rfl⟩
      have HAL := Lib.hid hx
      have hb : (x == 0) = false := by rw [hx] at ha; simpa using ha
      clear ha hx
      cases hp : parseL s
      case none =>
        have HP := Lib.hid hp
        clear hp
        go_enter Tryd.func6, Tryd.ntmps6
        go_wp2_with (first
          | (go_at_call 12; go_loud ((with_reducible refine (alive_any _ (HG.out.ext (HB.out.trans (by repeat (first | exact Ext.refl _ | refine Ext.drew ?_ | refine Ext.drewN ?_ _ | refine Ext.alloc ?_ _))))).mono ?_); rintro e w1 ⟨rfl, hq⟩; replace HB := Lib.hid (HB.out.trans (Ext.trans (by repeat (first | exact Ext.refl _ | refine Ext.drew ?_ | refine Ext.drewN ?_ _ | refine Ext.alloc ?_ _)) hq)); clear hq))
          | (go_at_call 13; go_loud ((with_reducible refine (great_any n c A _ hn).mono ?_); rintro e w1 ⟨rfl, hq⟩; replace HB := Lib.hid (HB.out.trans (Ext.trans (by repeat (first | exact Ext.refl _ | refine Ext.drew ?_ | refine Ext.drewN ?_ _ | refine Ext.alloc ?_ _)) hq)); clear hq; rw [HGR.out]))
          | (go_at_call 14; (first | ((with_reducible refine (rall_any n c A l _ (HX.out.ext (HB.out.trans (by repeat (first | exact Ext.refl _ | refine Ext.drew ?_ | refine Ext.drewN ?_ _ | refine Ext.alloc ?_ _)))) hn).mono ?_); rintro e w1 ⟨rfl, hq⟩; replace HB := Lib.hid (HB.out.trans (Ext.trans (by repeat (first | exact Ext.refl _ | refine Ext.drew ?_ | refine Ext.drewN ?_ _ | refine Ext.alloc ?_ _)) hq)); clear hq; rw [HAL.out])))
          | (go_at_call 9; (first | ((with_reducible refine (parse_x HP.out hs9 (HG.out.ext (HB.out.trans (by repeat (first | exact Ext.refl _ | refine Ext.drew ?_ | refine Ext.drewN ?_ _ | refine Ext.alloc ?_ _))))).mono ?_); rintro e w1 ⟨A3, c3, rfl, hq⟩; replace HB := Lib.hid (HB.out.trans (Ext.trans (by repeat (first | exact Ext.refl _ | refine Ext.drew ?_ | refine Ext.drewN ?_ _ | refine Ext.alloc ?_ _)) hq)); clear hq))))
        go_ret
        exact ⟨rfl, HB.out⟩
      case some L =>
        obtain ⟨g1, g2, g3⟩ := parse_iff.1 hp
        have HP := Lib.hid hp
        have HQ1 := Lib.hid g2
        have HQ2 := Lib.hid g3
        obtain ⟨q, hq3⟩ : ∃ q, L.length = q := ⟨_, rfl⟩
        have HQ3 := Lib.hid hq3
        clear hp g1 g2 g3 hq3
        go_enter Tryd.func6, Tryd.ntmps6
        go_wp2_with (first
          | (go_at_call 12; go_loud ((with_reducible refine (alive_any _ (HG.out.ext (HB.out.trans (by repeat (first | exact Ext.refl _ | refine Ext.drew ?_ | refine Ext.drewN ?_ _ | refine Ext.alloc ?_ _))))).mono ?_); rintro e w1 ⟨rfl, hq⟩; replace HB := Lib.hid (HB.out.trans (Ext.trans (by repeat (first | exact Ext.refl _ | refine Ext.drew ?_ | refine Ext.drewN ?_ _ | refine Ext.alloc ?_ _)) hq)); clear hq))
          | (go_at_call 13; go_loud ((with_reducible refine (great_any n c A _ hn).mono ?_); rintro e w1 ⟨rfl, hq⟩; replace HB := Lib.hid (HB.out.trans (Ext.trans (by repeat (first | exact Ext.refl _ | refine Ext.drew ?_ | refine Ext.drewN ?_ _ | refine Ext.alloc ?_ _)) hq)); clear hq; rw [HGR.out]))
          | (go_at_call 14; (first | ((with_reducible refine (rall_any q _ _ L _ HV2.out (len_e HV2.out HQ1.out)).mono ?_); rintro e w1 ⟨rfl, hq⟩; rw [HQ1.out]; replace HB := Lib.hid (HB.out.trans (Ext.trans (by repeat (first | exact Ext.refl _ | refine Ext.drew ?_ | refine Ext.drewN ?_ _ | refine Ext.alloc ?_ _)) hq)); clear hq) | ((with_reducible refine (rall_any n c A l _ (HX.out.ext (HB.out.trans (by repeat (first | exact Ext.refl _ | refine Ext.drew ?_ | refine Ext.drewN ?_ _ | refine Ext.alloc ?_ _)))) hn).mono ?_); rintro e w1 ⟨rfl, hq⟩; rw [HAL.out]; replace HB := Lib.hid (HB.out.trans (Ext.trans (by repeat (first | exact Ext.refl _ | refine Ext.drew ?_ | refine Ext.drewN ?_ _ | refine Ext.alloc ?_ _)) hq)); clear hq)))
          | (go_at_call 17; (first | ((with_reducible refine (stext_c HV2.out HQ1.out HQ2.out (HG.out.ext (HB.out.trans (by repeat (first | exact Ext.refl _ | refine Ext.drew ?_ | refine Ext.drewN ?_ _ | refine Ext.alloc ?_ _))))).mono ?_); rintro e w1 ⟨rfl, hq⟩; replace HV2 := Lib.hid (HV2.out.ext hq); replace HB := Lib.hid (HB.out.trans (Ext.trans (by repeat (first | exact Ext.refl _ | refine Ext.drew ?_ | refine Ext.drewN ?_ _ | refine Ext.alloc ?_ _)) hq)); clear hq)))
          | (go_at_call 9; (first | ((with_reducible refine (parse_c q HP.out HQ3.out (HG.out.ext (HB.out.trans (by repeat (first | exact Ext.refl _ | refine Ext.drew ?_ | refine Ext.drewN ?_ _ | refine Ext.alloc ?_ _))))).mono ?_); rintro e w1 ⟨A3, c3, rfl, hq, hv⟩; replace HB := Lib.hid (HB.out.trans (Ext.trans (by repeat (first | exact Ext.refl _ | refine Ext.drew ?_ | refine Ext.drewN ?_ _ | refine Ext.alloc ?_ _)) hq)); clear hq; have HV2 := Lib.hid (Vec.of_own hv); clear hv))))
        go_ret
        exact ⟨rfl, HB.out⟩

set_option maxRecDepth 100000 in
theorem stitchBack_lifted (os : Os) (started : os.Started) (H : Type) (enc : TypeId × Value → H) :
    ReturnsInHanded {} Tryd.checked os 6 .any (fun w args => (Rows.stitchBackSpec.pre enc Tryd.prog Tryd.f6 [] false w args ∧ laidMetH Tryd.prog [("math/bits.deBruijn32tab", Rows.laid_math_bits_deBruijn32tab), ("math/bits.deBruijn64tab", Rows.laid_math_bits_deBruijn64tab), ("internal/strconv.uint64pow10", Rows.laid_internal_strconv_uint64pow10), ("unicode/utf8.acceptRanges", Rows.laid_unicode_utf8_acceptRanges), ("strconv.ErrRange", Rows.laid_strconv_ErrRange), ("strconv.ErrSyntax", Rows.laid_strconv_ErrSyntax), ("unicode/utf8.first", Rows.laid_unicode_utf8_first)] w) ∧ sizedMet enc Tryd.prog Tryd.f6 (OpenSpec.ofChange Rows.stitchBackSpec) false w args)
      (Rows.stitchBackSpec.post enc Tryd.prog Tryd.f6 false true false false) := by
  refine returns_laid (C := Tryd.checked) (X := fun w _ => laidMetH Tryd.prog [("math/bits.deBruijn32tab", Rows.laid_math_bits_deBruijn32tab), ("math/bits.deBruijn64tab", Rows.laid_math_bits_deBruijn64tab), ("internal/strconv.uint64pow10", Rows.laid_internal_strconv_uint64pow10), ("unicode/utf8.acceptRanges", Rows.laid_unicode_utf8_acceptRanges), ("strconv.ErrRange", Rows.laid_strconv_ErrRange), ("strconv.ErrSyntax", Rows.laid_strconv_ErrSyntax), ("unicode/utf8.first", Rows.laid_unicode_utf8_first)] w) (fun _ _ _ hh h => h.of_heap hh) own started (by kernel_rfl) Tryd.func6
    (ChangeSpec.witness_shaped (enc := enc) (C := Tryd.checked) (os := os) (X := fun w _ => laidMetH Tryd.prog [("math/bits.deBruijn32tab", Rows.laid_math_bits_deBruijn32tab), ("math/bits.deBruijn64tab", Rows.laid_math_bits_deBruijn64tab), ("internal/strconv.uint64pow10", Rows.laid_internal_strconv_uint64pow10), ("unicode/utf8.acceptRanges", Rows.laid_unicode_utf8_acceptRanges), ("strconv.ErrRange", Rows.laid_strconv_ErrRange), ("strconv.ErrSyntax", Rows.laid_strconv_ErrSyntax), ("unicode/utf8.first", Rows.laid_unicode_utf8_first)] w) false (World.laidAll Tryd.prog os [("math/bits.deBruijn32tab", Rows.laid_math_bits_deBruijn32tab), ("math/bits.deBruijn64tab", Rows.laid_math_bits_deBruijn64tab), ("internal/strconv.uint64pow10", Rows.laid_internal_strconv_uint64pow10), ("unicode/utf8.acceptRanges", Rows.laid_unicode_utf8_acceptRanges), ("strconv.ErrRange", Rows.laid_strconv_ErrRange), ("strconv.ErrSyntax", Rows.laid_strconv_ErrSyntax), ("unicode/utf8.first", Rows.laid_unicode_utf8_first)]) #[.slice none 0 0, .string ⟨#[]⟩] 8 (World.laidAll_os _ _ _)
      (World.shaped_of_ZipB (by kernel_rfl) (by kernel_rfl)) (by kernel_rfl) (by kernel_rfl) (by kernel_rfl)
      (by rw [MakeChecks.laidMetH_plain _ _ _ (by kernel_rfl)]; exact laidMet_laidAll _ (by kernel_rfl) (by kernel_rfl))) ?_
  intro W base args ds gs before hval0 hW hL hsh
  have hval : ∀ (j : Nat) t v, Tryd.f6.params[j]? = some t → args[j]? = some v → Value.okWide Tryd.prog W .any base t v := hval0
  have hW' := hW
  obtain ⟨p, q, hA0, hV, rfl, hfz, hnd⟩ := hW
  have hA : DataW.TrodAll enc Tryd.prog W 0 (fun _ => true) true Tryd.f6.params.toList args.toList ds p := hA0
  rw [Tryd.params6] at hA hval
  obtain ⟨v0, vs0, d0, ds0, p0, q0, hargs, rfl, rfl, h0, r0⟩ := trodAll_cons hA
  obtain ⟨v1, vs1, d1, ds1, p1, q1, rfl, rfl, rfl, h1, r1⟩ := trodAll_cons r0
  obtain ⟨rfl, rfl, rfl⟩ := trodAll_nil r1
  obtain rfl : args = #[v0, v1] := by cases args; simp_all
  obtain ⟨rfl, rfl⟩ := trodVars_none hV
  obtain ⟨Aa, na, ca, a, rfl, hia, hma, hya⟩ := open_sts_arg (hval 0 24 v0 rfl rfl) h0
  obtain ⟨sB, rfl, -, -, -⟩ := ChangeMaps.open_string Tryd.underlying9 (hval 1 9 v1 rfl rfl) h1
  obtain ⟨s, rfl⟩ : ∃ l : List UInt8, sB = ⟨l.toArray⟩ := ⟨sB.data.toList, by simp⟩
  rw [MakeChecks.laidMetH_plain _ _ _ (by kernel_rfl)] at hL
  have hG := glob_of hL hsh
  refine (stitchBack_walk na ca Aa a s W hia hma hG).mono fun e W' ⟨he, hg⟩ => ?_
  subst he
  exact ⟨_, rfl, law_post laid_out rfl Tryd.underlying4 (by kernel_rfl) rfl hW' rfl hg⟩

theorem stitchBack_holds : Rows.StitchBackSaid :=
  OpenClaim.holds_of_wide 6 Tryd.f6 rfl rfl rfl rfl rfl rfl rfl ⟨rfl, rfl, rfl, rfl, rfl⟩ rfl rfl rfl rfl rfl (by kernel_rfl) Tryd.func6 (by kernel_rfl)
    (of_decide_eq_true (by kernel_rfl)) (by unfold Func.isWrapper; first | (rw [if_pos (by decide +kernel)]; kernel_rfl) | (rw [if_neg (by decide +kernel)]; exact ⟨rfl, rfl⟩))
    (fun os started H enc _ => stitchBack_lifted os started H enc)

theorem stitchBack_card : Rows.StitchBackCardSaid :=
  Claim7.holds_tied_plain_at .later [] [.data, .data, .data, .data, .sentinel, .sentinel, .pinned] true (true, "b30b9956a0e476c9c38fc7de0fb13095e71481363dba7d65da5ce99ee671de54") true
    stitchBack_holds (fun _ h => by cases h) (by kernel_rfl) (fun _ h => by cases h) stitchBack_row_tie rfl ⟨rfl, rfl⟩ (by kernel_rfl) rfl
    (fun f fn hf hfn => by
      obtain rfl : f = 6 := Option.some.inj ((show Tryd.prog.funcNamed "raddle/raddlelaw25.StitchBack" = some 6 by kernel_rfl).symm.trans hf) |>.symm
      obtain rfl : fn = Tryd.f6 := (Option.some.inj (Tryd.func6.symm.trans hfn)).symm
      exact ⟨by kernel_rfl, fun j t ht => by
        rw [Tryd.params6] at ht
        have hm : t ∈ [24, 9] := by simpa using Array.mem_of_getElem? ht
        have hall : ([24, 9].all fun u => !Tryd.prog.wantsStandIn u) = true := by kernel_rfl
        exact (show Tryd.prog.wantsStandIn t = false by simpa using List.all_eq_true.1 hall t hm)⟩)
    (by kernel_rfl)
end Go.Proofs.YtpcefmopoceiiaaDoor
