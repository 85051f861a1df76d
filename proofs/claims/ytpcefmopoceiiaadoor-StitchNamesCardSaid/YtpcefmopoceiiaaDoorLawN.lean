/- The kinds, limits and errors of stitches. -/
import Derived.Test.YtpcefmopoceiiaaDoorAlive
import Derived.Test.YtpcefmopoceiiaaDoorLaid
import Derived.Test.YtpcefmopoceiiaaDoorStitchV
import Derived.Test.YtpcefmopoceiiaaDoorCards
namespace Go.Proofs.YtpcefmopoceiiaaDoor
set_option maxRecDepth 100000
set_option maxRecDepth 100000
open Go.ChangeShapes Go.WideShapes Go.ChangeAt Go.RowKit Go.Joins
def badL : List St := [⟨0, false, 0, 0⟩, ⟨11, false, 0, 0⟩, ⟨1, false, 1, 0⟩, ⟨2, true, 0, 0⟩, ⟨3, false, 1, 0⟩, ⟨4, false, 5, 0⟩, ⟨5, false, 2, 1⟩, ⟨6, false, 7, 1⟩, ⟨7, false, 1, 0⟩, ⟨9, true, 1, 0⟩, ⟨10, false, 0, 0⟩, ⟨9, false, 201, 0⟩]
theorem bad_all : badL.all (fun s => decide (okE s = 8) && decide (allE [s] = 8) && decide (0 ≤ s.k) && decide (s.k ≤ 255)) = true := by decide +kernel
theorem bad_at {k : Nat} (hk : k < 12) : (okE (badL.getD k st0) = 8 ∧ allE [badL.getD k st0] = 8) ∧ 0 ≤ (badL.getD k st0).k ∧ (badL.getD k st0).k ≤ 255 := by
  have h := List.all_eq_true.1 bad_all (badL.getD k st0) (by
    rw [List.getD_eq_getElem?_getD, List.getElem?_eq_getElem (by exact hk)]
    exact List.getElem_mem _)
  simp only [Bool.and_eq_true, decide_eq_true_eq] at h
  exact ⟨h.1.1, h.1.2, h.2⟩
def worL : List (List UInt8) := [[107, 49], [107, 48, 50], [32, 107], [107, 32], [107, 32, 32, 107], [107, 32, 107], [107, 102], [107, 102, 49], [107, 120, 50], [107, 120, 50, 47], [107, 120, 47, 50], [120], [107, 115, 50], [121, 111, 50], [111, 110], [111, 110, 48], [107, 50, 48, 49], [107, 121, 49, 47, 50, 47, 51], [75], [107, 102, 50, 47, 49]]
theorem wor_all : worL.all (fun s => decide (parseL s = none) && decide (s.length ≤ 100)) = true := by decide +kernel
theorem wor_at {k : Nat} (hk : k < 20) : parseL (worL.getD k []) = none ∧ (worL.getD k []).length ≤ 1000000000 := by
  have h := List.all_eq_true.1 wor_all (worL.getD k []) (by
    rw [List.getD_eq_getElem?_getD, List.getElem?_eq_getElem (by exact hk)]
    exact List.getElem_mem _)
  simp only [Bool.and_eq_true, decide_eq_true_eq] at h
  exact ⟨h.1, by omega⟩
def thiL : List St := [⟨1, false, 0, 0⟩, ⟨1, true, 0, 0⟩, ⟨1, true, 0, 0⟩, ⟨2, false, 0, 0⟩, ⟨3, false, 2, 0⟩, ⟨4, true, 3, 0⟩, ⟨5, false, 4, 0⟩, ⟨6, true, 1, 6⟩, ⟨7, false, 2, 2⟩, ⟨8, false, 0, 0⟩, ⟨8, true, 0, 0⟩, ⟨9, false, 7, 0⟩, ⟨10, true, 9, 0⟩]
def manyL : List St := List.replicate 200 ⟨1, false, 0, 0⟩
theorem own_cap {α : Type} {S : Shp α} {w : World} {B k c : Nat} {e : TypeId} {A : Option Addr} {L : List α} (h : OwnV S w B e (.slice A k c) k L) : k ≤ c := by
  rcases h.2 with ⟨h0, h1⟩ | ⟨g, cap, cur, h0, hB, hg, hnc, r⟩
  · omega
  · cases h0
    exact hnc
theorem Vec.first {α : Type} {S : Shp α} {w : World} {A : Option Addr} {n k : Nat} {l : List α} (h : Vec S w A n l) (hk : k ≤ n) : Vec S w A k (l.take k) := by
  have h1 := h.1
  refine ⟨by rw [List.length_take]; omega, fun h0 => ?_⟩
  obtain ⟨b, off, e, hlt, hc⟩ := h.2 (by omega)
  refine ⟨b, off, e, hlt, fun j x hx i u hu => hc j x ?_ i u hu⟩
  rw [List.getElem?_take] at hx
  split at hx
  · exact hx
  · cases hx
theorem Vec.rest {α : Type} {S : Shp α} {w : World} {A : Option Addr} {n k : Nat} {l : List α} (h : Vec S w A n l) (hk : k ≤ n) : ∀ (A' : Option Addr), (k < n → ∃ b off, A = some ⟨b, off, none⟩ ∧ A' = some ⟨b, off + k * S.size, none⟩) → Vec S w A' (n - k) (l.drop k) := by
  intro A' hA
  have h1 := h.1
  refine ⟨by rw [List.length_drop]; omega, fun h0 => ?_⟩
  obtain ⟨b, off, e, hlt, hc⟩ := h.2 (by omega)
  obtain ⟨b', off', e1, e2⟩ := hA (by omega)
  rw [e] at e1
  cases e1
  refine ⟨b, off + k * S.size, e2, hlt, fun j x hx i u hu => ?_⟩
  rw [List.getElem?_drop] at hx
  have h9 := hc (k + j) x hx i u hu
  rw [show off + k * S.size + (j * S.size + i) = off + ((k + j) * S.size + i) by rw [Nat.add_mul]; omega]
  exact h9
set_option maxHeartbeats 8000000 in
theorem stitchNames_walk (w : World) (hg : Glob w) : Calls Tryd.prog 3 #[] w fun e w' => e = .returned (.bool true) ∧ Ext w w' := by
  have HG := Lib.hid hg
  clear hg
  go_enter Tryd.func3, Tryd.ntmps3
  go_wp2_with fail
  go_loopw [2] (fun i wr => ∃ k : Nat, i = .int .i64 k ∧ k ≤ 12 ∧ Hid (Vec shSt wr (some ⟨w.heap.size, 0, none⟩) 12 badL) ∧ Hid (Ext w wr)) (fun i _ => 12 - (intOf i).toNat)
  case atStart => exact ⟨0, rfl, by omega, Lib.hid (Vec.lit2 (by simp) rfl rfl), Lib.hid (by repeat (first | exact Ext.refl _ | assumption | refine Ext.alloc ?_ _ | refine Ext.drew ?_ | refine Ext.drewN ?_ _ | refine Ext.trans ?_ (by assumption)))⟩
  case round =>
    obtain ⟨k, rfl, hk, HV, HB⟩ := hrel
    by_cases hlt : k < 12
    · obtain ⟨b, off, he, hb1, hc⟩ := Sts.all HV.out (by omega)
      cases he
      obtain ⟨c1, c2, c3, c4⟩ := hc k hlt
      have hz := World.block_lt_of_cell? wr _ c1
      obtain ⟨⟨o1, o2⟩, o3, o4⟩ := bad_at hlt
      have HV1 := Lib.hid (show Vec shSt wr (some ⟨w.heap.size, k * 4, none⟩) 1 [badL.getD k st0] from by
        have h9 := (HV.out.rest (k := k) (by omega) (some ⟨w.heap.size, k * 4, none⟩) (fun _ => ⟨_, _, rfl, by rw [Nat.zero_add]; rfl⟩)).first (k := 1) (by omega)
        rw [List.drop_eq_getElem_cons (show k < badL.length from hlt), List.take_succ_cons, List.take_zero] at h9
        rw [List.getD_eq_getElem?_getD, List.getElem?_eq_getElem (show k < badL.length from hlt)]
        exact h9)
      have HE8 := Lib.hid o1
      have HA8 := Lib.hid o2
      clear hc o1 o2
      generalize badL.getD k st0 = x at *
      obtain ⟨sk, sp, sa, sb⟩ := x
      simp only [Nat.zero_add] at c1 c2 c3 c4 o3 o4 hz
      have q5 : (k : Int) < 12 := by omega
      have q6 : ¬ (12 : Nat) = k := by omega
      have i1 := IntWalk.i64_in ((k : Int) + 1) ⟨by omega, by omega⟩
      go_wp2_with (first
        | (go_at_call 7; go_loud ((with_reducible refine (check_any sk sp sa sb o3 o4 _).mono ?_); rintro e w1 ⟨rfl, hq⟩; rw [HE8.out]; replace HV := Lib.hid (HV.out.ext hq); replace HV1 := Lib.hid (HV1.out.ext hq); replace HB := Lib.hid (HB.out.trans (Ext.trans (by repeat (first | exact Ext.refl _ | refine Ext.drew ?_ | refine Ext.drewN ?_ _ | refine Ext.alloc ?_ _)) hq)); clear hq))
        | (go_at_call 8; go_loud ((with_reducible refine (sall_any 1 _ _ [⟨sk, sp, sa, sb⟩] _ HV1.out (by unfold maxLen; omega) (bytes_of (fun s hs => by obtain rfl := List.mem_singleton.1 hs; exact ⟨o3, o4⟩))).mono ?_); rintro e w1 ⟨rfl, hq⟩; rw [HA8.out]; replace HV := Lib.hid (HV.out.ext hq); replace HB := Lib.hid (HB.out.trans (Ext.trans (by repeat (first | exact Ext.refl _ | refine Ext.drew ?_ | refine Ext.drewN ?_ _ | refine Ext.alloc ?_ _)) hq)); clear hq)))
      go_roundw
      case rel => exact ⟨k + 1, by go_num, by omega, HV, HB⟩
      case measure => simp [intOf]; omega
    · obtain rfl : k = 12 := by omega
      clear HV
      go_wp2_with fail
      go_loopw [4] (fun i w5 => ∃ k : Nat, i = .int .i64 k ∧ k ≤ 20 ∧ Hid (Vec shStr w5 (some ⟨wr.heap.size, 0, none⟩) 20 worL) ∧ Hid (Ext w w5)) (fun i _ => 20 - (intOf i).toNat)
      case atStart => exact ⟨0, rfl, by omega, Lib.hid (Vec.lit2 (by simp) rfl rfl), Lib.hid (HB.out.trans (by repeat (first | exact Ext.refl _ | assumption | refine Ext.alloc ?_ _ | refine Ext.drew ?_ | refine Ext.drewN ?_ _ | refine Ext.trans ?_ (by assumption))))⟩
      case round =>
        obtain ⟨k, rfl, hk, HV, HB⟩ := hrel
        by_cases hlt : k < 20
        · have hcell := str_cell HV.out hlt
          have hz := World.block_lt_of_cell? _ _ hcell
          obtain ⟨hp1, hp2⟩ := wor_at hlt
          generalize worL.getD k [] = x at *
          have q5 : (k : Int) < 20 := by omega
          go_wp2_with (first
            | (go_at_call 9; go_loud ((with_reducible refine (parse_x hp1 hp2 (HG.out.ext (HB.out.trans (by repeat (first | exact Ext.refl _ | refine Ext.drew ?_ | refine Ext.drewN ?_ _ | refine Ext.alloc ?_ _))))).mono ?_); rintro e w1 ⟨A1, c1, rfl, hq⟩; replace HV := Lib.hid (HV.out.ext (Ext.trans (by repeat (first | exact Ext.refl _ | refine Ext.drew ?_ | refine Ext.drewN ?_ _ | refine Ext.alloc ?_ _)) hq)); replace HB := Lib.hid (HB.out.trans (Ext.trans (by repeat (first | exact Ext.refl _ | refine Ext.drew ?_ | refine Ext.drewN ?_ _ | refine Ext.alloc ?_ _)) hq)); clear hq)))
          go_roundw
          case rel => exact ⟨_, _, _, _, _, _, _, _, _, _, _, _, _, _, _, _, _, _, _, _, _, _, _, _, _, ⟨k + 1, by go_num, by omega, HV, HB⟩, rfl⟩
          case measure => simp [intOf]; omega
        · obtain rfl : k = 20 := by omega
          clear HV
          have P1 := Lib.hid (show parseL [107, 32, 112, 50, 32, 121, 111, 32, 107, 102, 50, 32, 112, 108, 51, 32, 107, 109, 52, 32, 112, 120, 49, 47, 54, 32, 107, 121, 50, 47, 50, 32, 107, 115, 32, 112, 115, 32, 111, 110, 55, 32, 112, 111, 57] = some thiL by decide +kernel)
          have P2 := Lib.hid (show parseL [] = some [] by decide +kernel)
          have P3 := Lib.hid (show parseL [107, 50, 48, 48] = some manyL by decide +kernel)
          have T1 := Lib.hid (show allE thiL = 0 by decide +kernel)
          have T2 := Lib.hid (show usL thiL = 31 by decide +kernel)
          have T3 := Lib.hid (show mkL thiL = 30 by decide +kernel)
          have L1 := Lib.hid (show thiL.length = 13 by decide +kernel)
          have L2 := Lib.hid (show ([] : List St).length = 0 from rfl)
          have L3 := Lib.hid (show manyL.length = 200 by decide +kernel)
          have A1 := Lib.hid (show allE (manyL ++ [⟨1, false, 0, 0⟩]) = 4 by decide +kernel)
          have A2 := Lib.hid (show allE [⟨10, false, 200, 0⟩, ⟨1, false, 0, 0⟩] = 4 by decide +kernel)
          have A3 := Lib.hid (show allE [⟨9, false, 200, 0⟩, ⟨2, false, 0, 0⟩] = 4 by decide +kernel)
          have B1 := Lib.hid (show Bytes (manyL ++ [⟨1, false, 0, 0⟩]) from bytes_of (by decide +kernel))
          have B2 := Lib.hid (show Bytes [⟨10, false, 200, 0⟩, ⟨1, false, 0, 0⟩] from bytes_of (by decide +kernel))
          have B3 := Lib.hid (show Bytes [⟨9, false, 200, 0⟩, ⟨2, false, 0, 0⟩] from bytes_of (by decide +kernel))
          have hml := Lib.hid (show maxLen ≥ 1000 by unfold maxLen; omega)
          go_wp2_with (first
            | (go_at_call 9; (first
              | ((with_reducible refine (parse_c 13 P1.out L1.out (HG.out.ext (HB.out.trans (by repeat (first | exact Ext.refl _ | refine Ext.drew ?_ | refine Ext.drewN ?_ _ | refine Ext.alloc ?_ _))))).mono ?_); rintro e w1 ⟨A4, c4, rfl, hq, hv⟩; replace HB := Lib.hid (HB.out.trans (Ext.trans (by repeat (first | exact Ext.refl _ | refine Ext.drew ?_ | refine Ext.drewN ?_ _ | refine Ext.alloc ?_ _)) hq)); clear hq; have HV1 := Lib.hid (Vec.of_own hv); clear hv)
              | ((with_reducible refine (parse_c 200 P3.out L3.out (HG.out.ext (HB.out.trans (by repeat (first | exact Ext.refl _ | refine Ext.drew ?_ | refine Ext.drewN ?_ _ | refine Ext.alloc ?_ _))))).mono ?_); rintro e w3 ⟨A6, c6, rfl, hq, hv⟩; have hc6 : (1 : Int) ≤ (c6 : Int) := (by have := own_cap hv; omega); have HEL := Lib.hid hq; replace HB := Lib.hid (HB.out.trans (Ext.trans (by repeat (first | exact Ext.refl _ | refine Ext.drew ?_ | refine Ext.drewN ?_ _ | refine Ext.alloc ?_ _)) hq)); clear hq; have HV3 := Lib.hid hv; clear hv)
              | ((with_reducible refine (parse_c 0 P2.out L2.out (HG.out.ext (HB.out.trans (by repeat (first | exact Ext.refl _ | refine Ext.drew ?_ | refine Ext.drewN ?_ _ | refine Ext.alloc ?_ _))))).mono ?_); rintro e wz ⟨A5, c5, rfl, hq, -⟩; replace HB := Lib.hid (HB.out.trans (Ext.trans (by repeat (first | exact Ext.refl _ | refine Ext.drew ?_ | refine Ext.drewN ?_ _ | refine Ext.alloc ?_ _)) hq)); clear hq; have HBZ := HB)))
            | (go_at_call 10; go_loud ((with_reducible refine (uses_c HV1.out T1.out T2.out).mono ?_); rintro e w1 ⟨rfl, hq⟩; replace HV1 := Lib.hid (HV1.out.ext hq); replace HB := Lib.hid (HB.out.trans (Ext.trans (by repeat (first | exact Ext.refl _ | refine Ext.drew ?_ | refine Ext.drewN ?_ _ | refine Ext.alloc ?_ _)) hq)); clear hq))
            | (go_at_call 11; go_loud ((with_reducible refine (makes_c HV1.out T1.out T3.out).mono ?_); rintro e w1 ⟨rfl, hq⟩; replace HB := Lib.hid (HB.out.trans (Ext.trans (by repeat (first | exact Ext.refl _ | refine Ext.drew ?_ | refine Ext.drewN ?_ _ | refine Ext.alloc ?_ _)) hq)); clear hq))
            | (at_builtin; go_loud (refine wpList_append_vecsB (S := shSt) (w := wz) (m := 1) (xs := [⟨1, false, 0, 0⟩]) 24 23 (.agg #[.int .u8 0, .bool false, .int .i64 0, .int .i64 0]) 24 (by rfl) (by rfl) Tryd.underlying24 info_st (by rfl) (by omega) (by rfl) (by rfl) HV3.out HEL.out ((Vec.of_own HV3.out).first (k := 1) (by omega)) (by omega) ?_; intro v' w6 hown6 hext6 hgr6; obtain ⟨A9, c9, rfl, hv9, -⟩ := own_vecB hown6; replace HB := Lib.hid (HBZ.out.trans hext6.out); have HV9 := Lib.hid (show Vec shSt w6 A9 201 (manyL ++ [⟨1, false, 0, 0⟩]) from hv9); clear hown6 hgr6 hext6 hv9))
            | (go_at_call 8; (first
              | ((with_reducible refine (sall_any 201 _ _ (manyL ++ [⟨1, false, 0, 0⟩]) _ HV9.out (by have := hml.out; omega) B1.out).mono ?_); rintro e w1 ⟨rfl, hq⟩; rw [A1.out]; replace HB := Lib.hid (HB.out.trans (Ext.trans (by repeat (first | exact Ext.refl _ | refine Ext.drew ?_ | refine Ext.drewN ?_ _ | refine Ext.alloc ?_ _)) hq)); clear hq)
              | ((with_reducible refine (sall_any 2 _ _ [⟨10, false, 200, 0⟩, ⟨1, false, 0, 0⟩] _ ?_ (by have := hml.out; omega) B2.out).mono ?_); (focus (exact Vec.lit2 (by simp) rfl rfl)); rintro e w1 ⟨rfl, hq⟩; rw [A2.out]; replace HB := Lib.hid (HB.out.trans (Ext.trans (by repeat (first | exact Ext.refl _ | refine Ext.drew ?_ | refine Ext.drewN ?_ _ | refine Ext.alloc ?_ _)) hq)); clear hq)
              | ((with_reducible refine (sall_any 2 _ _ [⟨9, false, 200, 0⟩, ⟨2, false, 0, 0⟩] _ ?_ (by have := hml.out; omega) B3.out).mono ?_); (focus (exact Vec.lit2 (by simp) rfl rfl)); rintro e w1 ⟨rfl, hq⟩; rw [A3.out]; replace HB := Lib.hid (HB.out.trans (Ext.trans (by repeat (first | exact Ext.refl _ | refine Ext.drew ?_ | refine Ext.drewN ?_ _ | refine Ext.alloc ?_ _)) hq)); clear hq)))
            | (go_at_call 12; go_loud ((with_reducible refine (alive_any _ (HG.out.ext (HB.out.trans (by repeat (first | exact Ext.refl _ | refine Ext.drew ?_ | refine Ext.drewN ?_ _ | refine Ext.alloc ?_ _))))).mono ?_); rintro e w1 ⟨rfl, hq⟩; replace HB := Lib.hid (HB.out.trans (Ext.trans (by repeat (first | exact Ext.refl _ | refine Ext.drew ?_ | refine Ext.drewN ?_ _ | refine Ext.alloc ?_ _)) hq)); clear hq)))
          go_ret
          exact ⟨rfl, HB.out⟩

set_option maxRecDepth 100000 in
theorem stitchNames_lifted (os : Os) (started : os.Started) (H : Type) (enc : TypeId × Value → H) :
    ReturnsInHanded {} Tryd.checked os 3 .any (fun w args => (Rows.stitchNamesSpec.pre enc Tryd.prog Tryd.f3 [] false w args ∧ laidMetH Tryd.prog [("math/bits.deBruijn32tab", Rows.laid_math_bits_deBruijn32tab), ("math/bits.deBruijn64tab", Rows.laid_math_bits_deBruijn64tab), ("internal/strconv.uint64pow10", Rows.laid_internal_strconv_uint64pow10), ("unicode/utf8.acceptRanges", Rows.laid_unicode_utf8_acceptRanges), ("strconv.ErrRange", Rows.laid_strconv_ErrRange), ("strconv.ErrSyntax", Rows.laid_strconv_ErrSyntax), ("unicode/utf8.first", Rows.laid_unicode_utf8_first)] w) ∧ sizedMet enc Tryd.prog Tryd.f3 (OpenSpec.ofChange Rows.stitchNamesSpec) false w args)
      (Rows.stitchNamesSpec.post enc Tryd.prog Tryd.f3 false true false false) := by
  refine returns_laid (C := Tryd.checked) (X := fun w _ => laidMetH Tryd.prog [("math/bits.deBruijn32tab", Rows.laid_math_bits_deBruijn32tab), ("math/bits.deBruijn64tab", Rows.laid_math_bits_deBruijn64tab), ("internal/strconv.uint64pow10", Rows.laid_internal_strconv_uint64pow10), ("unicode/utf8.acceptRanges", Rows.laid_unicode_utf8_acceptRanges), ("strconv.ErrRange", Rows.laid_strconv_ErrRange), ("strconv.ErrSyntax", Rows.laid_strconv_ErrSyntax), ("unicode/utf8.first", Rows.laid_unicode_utf8_first)] w) (fun _ _ _ hh h => h.of_heap hh) own started (by kernel_rfl) Tryd.func3
    (ChangeSpec.witness_shaped (enc := enc) (C := Tryd.checked) (os := os) (X := fun w _ => laidMetH Tryd.prog [("math/bits.deBruijn32tab", Rows.laid_math_bits_deBruijn32tab), ("math/bits.deBruijn64tab", Rows.laid_math_bits_deBruijn64tab), ("internal/strconv.uint64pow10", Rows.laid_internal_strconv_uint64pow10), ("unicode/utf8.acceptRanges", Rows.laid_unicode_utf8_acceptRanges), ("strconv.ErrRange", Rows.laid_strconv_ErrRange), ("strconv.ErrSyntax", Rows.laid_strconv_ErrSyntax), ("unicode/utf8.first", Rows.laid_unicode_utf8_first)] w) false (World.laidAll Tryd.prog os [("math/bits.deBruijn32tab", Rows.laid_math_bits_deBruijn32tab), ("math/bits.deBruijn64tab", Rows.laid_math_bits_deBruijn64tab), ("internal/strconv.uint64pow10", Rows.laid_internal_strconv_uint64pow10), ("unicode/utf8.acceptRanges", Rows.laid_unicode_utf8_acceptRanges), ("strconv.ErrRange", Rows.laid_strconv_ErrRange), ("strconv.ErrSyntax", Rows.laid_strconv_ErrSyntax), ("unicode/utf8.first", Rows.laid_unicode_utf8_first)]) #[] 8 (World.laidAll_os _ _ _)
      (World.shaped_of_ZipB (by kernel_rfl) (by kernel_rfl)) (by kernel_rfl) (by kernel_rfl) (by kernel_rfl)
      (by rw [MakeChecks.laidMetH_plain _ _ _ (by kernel_rfl)]; exact laidMet_laidAll _ (by kernel_rfl) (by kernel_rfl))) ?_
  intro W base args ds gs before hval0 hW hL hsh
  have hval : ∀ (j : Nat) t v, Tryd.f3.params[j]? = some t → args[j]? = some v → Value.okWide Tryd.prog W .any base t v := hval0
  have hW' := hW
  obtain ⟨p, q, hA0, hV, rfl, hfz, hnd⟩ := hW
  have hA : DataW.TrodAll enc Tryd.prog W 0 (fun _ => true) true Tryd.f3.params.toList args.toList ds p := hA0
  rw [Tryd.params3] at hA hval
  obtain ⟨rfl, rfl, rfl⟩ := trodAll_none hA
  obtain ⟨rfl, rfl⟩ := trodVars_none hV
  rw [MakeChecks.laidMetH_plain _ _ _ (by kernel_rfl)] at hL
  have hG := glob_of hL hsh
  refine (stitchNames_walk W hG).mono fun e W' ⟨he, hg⟩ => ?_
  subst he
  exact ⟨_, rfl, law_post laid_out rfl Tryd.underlying4 (by kernel_rfl) rfl hW' rfl hg⟩

theorem stitchNames_holds : Rows.StitchNamesSaid :=
  OpenClaim.holds_of_wide 3 Tryd.f3 rfl rfl rfl rfl rfl rfl rfl ⟨rfl, rfl, rfl, rfl, rfl⟩ rfl rfl rfl rfl rfl (by kernel_rfl) Tryd.func3 (by kernel_rfl)
    (of_decide_eq_true (by kernel_rfl)) (by unfold Func.isWrapper; first | (rw [if_pos (by decide +kernel)]; kernel_rfl) | (rw [if_neg (by decide +kernel)]; exact ⟨rfl, rfl⟩))
    (fun os started H enc _ => stitchNames_lifted os started H enc)

theorem stitchNames_card : Rows.StitchNamesCardSaid :=
  Claim7.holds_tied_plain_at .later [] [.data, .data, .data, .data, .sentinel, .sentinel, .pinned] true (true, "b30b9956a0e476c9c38fc7de0fb13095e71481363dba7d65da5ce99ee671de54") true
    stitchNames_holds (fun _ h => by cases h) (by kernel_rfl) (fun _ h => by cases h) stitchNames_row_tie rfl ⟨rfl, rfl⟩ (by kernel_rfl) rfl
    (fun f fn hf hfn => by
      obtain rfl : f = 3 := Option.some.inj ((show Tryd.prog.funcNamed "raddle/raddlelaw25.StitchNames" = some 3 by kernel_rfl).symm.trans hf) |>.symm
      obtain rfl : fn = Tryd.f3 := (Option.some.inj (Tryd.func3.symm.trans hfn)).symm
      exact ⟨by kernel_rfl, fun j t ht => by
        rw [Tryd.params3] at ht
        simp at ht⟩)
    (by kernel_rfl)
end Go.Proofs.YtpcefmopoceiiaaDoor
