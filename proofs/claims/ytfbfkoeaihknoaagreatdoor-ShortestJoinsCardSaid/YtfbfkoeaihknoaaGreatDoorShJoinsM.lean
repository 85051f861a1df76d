/- The shortest list of cells put together is not longer than those of both, and cells that are repeated need at most one term more; for at most 24 valid cells together, and a number from 1 to 4. -/
import Derived.Test.YtfbfkoeaihknoaaGreatDoorG31
import Derived.Test.YtfbfkoeaihknoaaGreatDoorG10
import Derived.Test.YtfbfkoeaihknoaaGreatDoorCards
namespace Go.Proofs.YtfbfkoeaihknoaaGreatDoor
set_option maxRecDepth 100000
set_option maxRecDepth 100000
open Go.ChangeShapes Go.WideShapes Go.ChangeAt Go.RowKit Go.Joins
theorem OwnV.empty_ {α : Type} (S : Shp α) {w : World} {g B : Nat} {e : TypeId} (h : w.heap[g]? = some (.cells #[] e (0, 0))) (hB : B ≤ g) : OwnV S w B e (.slice (some ⟨g, 0, none⟩) 0 0) 0 [] :=
  ⟨by simp, .inr ⟨g, 0, #[], rfl, hB, h, Nat.le_refl _, by simp, by simp, by simp⟩⟩
theorem rep_length (q : Nat) (l : List St) : (rep q l).length = q * l.length := by
  induction q with
  | zero => simp [rep]
  | succ q ih => rw [rep, List.length_append, ih, Nat.add_mul, Nat.one_mul, Nat.add_comm]
set_option maxHeartbeats 8000000 in
theorem shortestJoins_walk (n c m d : Nat) (A B : Option Addr) (l k : List St) (times : Int) (w : World) (hl : Vec shSt w A n l) (hm : Vec shSt w B m k) (hn : n ≤ maxLen) (hnm : m ≤ maxLen) (hg : Glob w) :
    Calls Tryz.prog 5 #[.slice A n c, .slice B m d, .int .i64 times] w fun e w' => e = .returned (.bool true) ∧ Ext w w' := by
  have HL := Lib.hid hl
  have HM := Lib.hid hm
  have HLL := Lib.hid hl.1
  have HLM := Lib.hid hm.1
  have HG := Lib.hid hg
  have HN := Lib.hid hn
  have HNM := Lib.hid hnm
  clear hl hm hg
  unfold maxLen at hn hnm
  cases hfe : fewB l
  case false =>
    have HFE := Lib.hid hfe
    clear hfe
    go_enter Tryz.func5, Tryz.ntmps5
    go_wp2_with (first
      | (go_at_call 15; go_loud ((with_reducible refine (shalive_any _ (HG.out.ext (by repeat (first | exact Ext.refl _ | assumption | refine Ext.alloc ?_ _ | refine Ext.drew ?_ | refine Ext.drewN ?_ _ | refine Ext.trans ?_ (by assumption))))).mono ?_); rintro e w1 ⟨rfl, hq1⟩))
      | (go_at_call 16; (first | ((with_reducible refine (few_any n c A l _ (HL.out.ext (by repeat (first | exact Ext.refl _ | assumption | refine Ext.alloc ?_ _ | refine Ext.drew ?_ | refine Ext.drewN ?_ _ | refine Ext.trans ?_ (by assumption)))) HN.out).mono ?_); rintro e w2 ⟨rfl, hq2⟩; rw [HFE.out]) | (go_loud ((with_reducible refine (few_any m d B k _ (HM.out.ext (by repeat (first | exact Ext.refl _ | assumption | refine Ext.alloc ?_ _ | refine Ext.drew ?_ | refine Ext.drewN ?_ _ | refine Ext.trans ?_ (by assumption)))) HNM.out).mono ?_); rintro e w3 ⟨rfl, hq3⟩; rw [HFM.out])))))
    all_goals (go_ret; exact ⟨by first | rfl | simp, by repeat (first | exact Ext.refl _ | assumption | refine Ext.alloc ?_ _ | refine Ext.drew ?_ | refine Ext.drewN ?_ _ | refine Ext.trans ?_ (by assumption))⟩)
  obtain ⟨h24, hal⟩ := few_e hfe
  have hn24 : n ≤ 24 := by rw [← HLL.out]; exact h24
  have HFE := Lib.hid hfe
  clear hfe h24
  cases hfm : fewB k
  case false =>
    have HFM := Lib.hid hfm
    clear hfm
    go_enter Tryz.func5, Tryz.ntmps5
    go_wp2_with (first
      | (go_at_call 15; go_loud ((with_reducible refine (shalive_any _ (HG.out.ext (by repeat (first | exact Ext.refl _ | assumption | refine Ext.alloc ?_ _ | refine Ext.drew ?_ | refine Ext.drewN ?_ _ | refine Ext.trans ?_ (by assumption))))).mono ?_); rintro e w1 ⟨rfl, hq1⟩))
      | (go_at_call 16; (first | ((with_reducible refine (few_any n c A l _ (HL.out.ext (by repeat (first | exact Ext.refl _ | assumption | refine Ext.alloc ?_ _ | refine Ext.drew ?_ | refine Ext.drewN ?_ _ | refine Ext.trans ?_ (by assumption)))) HN.out).mono ?_); rintro e w2 ⟨rfl, hq2⟩; rw [HFE.out]) | (go_loud ((with_reducible refine (few_any m d B k _ (HM.out.ext (by repeat (first | exact Ext.refl _ | assumption | refine Ext.alloc ?_ _ | refine Ext.drew ?_ | refine Ext.drewN ?_ _ | refine Ext.trans ?_ (by assumption)))) HNM.out).mono ?_); rintro e w3 ⟨rfl, hq3⟩; rw [HFM.out])))))
    all_goals (go_ret; exact ⟨by first | rfl | simp, by repeat (first | exact Ext.refl _ | assumption | refine Ext.alloc ?_ _ | refine Ext.drew ?_ | refine Ext.drewN ?_ _ | refine Ext.trans ?_ (by assumption))⟩)
  obtain ⟨h24, ham⟩ := few_e hfm
  have hm24 : m ≤ 24 := by rw [← HLM.out]; exact h24
  have HFM := Lib.hid hfm
  clear hfm h24
  have i1 := IntWalk.i64_in ((n : Int) + (m : Int)) (by omega)
  by_cases hs : n + m ≤ 24
  case neg =>
    have q1 : (24 : Int) < (n : Int) + (m : Int) := by omega
    go_enter Tryz.func5, Tryz.ntmps5
    go_wp2_with (first
      | (go_at_call 15; go_loud ((with_reducible refine (shalive_any _ (HG.out.ext (by repeat (first | exact Ext.refl _ | assumption | refine Ext.alloc ?_ _ | refine Ext.drew ?_ | refine Ext.drewN ?_ _ | refine Ext.trans ?_ (by assumption))))).mono ?_); rintro e w1 ⟨rfl, hq1⟩))
      | (go_at_call 16; (first | ((with_reducible refine (few_any n c A l _ (HL.out.ext (by repeat (first | exact Ext.refl _ | assumption | refine Ext.alloc ?_ _ | refine Ext.drew ?_ | refine Ext.drewN ?_ _ | refine Ext.trans ?_ (by assumption)))) HN.out).mono ?_); rintro e w2 ⟨rfl, hq2⟩; rw [HFE.out]) | (go_loud ((with_reducible refine (few_any m d B k _ (HM.out.ext (by repeat (first | exact Ext.refl _ | assumption | refine Ext.alloc ?_ _ | refine Ext.drew ?_ | refine Ext.drewN ?_ _ | refine Ext.trans ?_ (by assumption)))) HNM.out).mono ?_); rintro e w3 ⟨rfl, hq3⟩; rw [HFM.out])))))
    all_goals (go_ret; exact ⟨by first | rfl | simp, by repeat (first | exact Ext.refl _ | assumption | refine Ext.alloc ?_ _ | refine Ext.drew ?_ | refine Ext.drewN ?_ _ | refine Ext.trans ?_ (by assumption))⟩)
  have q1 : ¬ ((24 : Int) < (n : Int) + (m : Int)) := by omega
  by_cases ht1 : times < 1
  · skip
    go_enter Tryz.func5, Tryz.ntmps5
    go_wp2_with (first
      | (go_at_call 15; go_loud ((with_reducible refine (shalive_any _ (HG.out.ext (by repeat (first | exact Ext.refl _ | assumption | refine Ext.alloc ?_ _ | refine Ext.drew ?_ | refine Ext.drewN ?_ _ | refine Ext.trans ?_ (by assumption))))).mono ?_); rintro e w1 ⟨rfl, hq1⟩))
      | (go_at_call 16; (first | ((with_reducible refine (few_any n c A l _ (HL.out.ext (by repeat (first | exact Ext.refl _ | assumption | refine Ext.alloc ?_ _ | refine Ext.drew ?_ | refine Ext.drewN ?_ _ | refine Ext.trans ?_ (by assumption)))) HN.out).mono ?_); rintro e w2 ⟨rfl, hq2⟩; rw [HFE.out]) | (go_loud ((with_reducible refine (few_any m d B k _ (HM.out.ext (by repeat (first | exact Ext.refl _ | assumption | refine Ext.alloc ?_ _ | refine Ext.drew ?_ | refine Ext.drewN ?_ _ | refine Ext.trans ?_ (by assumption)))) HNM.out).mono ?_); rintro e w3 ⟨rfl, hq3⟩; rw [HFM.out])))))
    all_goals (go_ret; exact ⟨by first | rfl | simp, by repeat (first | exact Ext.refl _ | assumption | refine Ext.alloc ?_ _ | refine Ext.drew ?_ | refine Ext.drewN ?_ _ | refine Ext.trans ?_ (by assumption))⟩)
  by_cases ht2 : 4 < times
  · skip
    go_enter Tryz.func5, Tryz.ntmps5
    go_wp2_with (first
      | (go_at_call 15; go_loud ((with_reducible refine (shalive_any _ (HG.out.ext (by repeat (first | exact Ext.refl _ | assumption | refine Ext.alloc ?_ _ | refine Ext.drew ?_ | refine Ext.drewN ?_ _ | refine Ext.trans ?_ (by assumption))))).mono ?_); rintro e w1 ⟨rfl, hq1⟩))
      | (go_at_call 16; (first | ((with_reducible refine (few_any n c A l _ (HL.out.ext (by repeat (first | exact Ext.refl _ | assumption | refine Ext.alloc ?_ _ | refine Ext.drew ?_ | refine Ext.drewN ?_ _ | refine Ext.trans ?_ (by assumption)))) HN.out).mono ?_); rintro e w2 ⟨rfl, hq2⟩; rw [HFE.out]) | (go_loud ((with_reducible refine (few_any m d B k _ (HM.out.ext (by repeat (first | exact Ext.refl _ | assumption | refine Ext.alloc ?_ _ | refine Ext.drew ?_ | refine Ext.drewN ?_ _ | refine Ext.trans ?_ (by assumption)))) HNM.out).mono ?_); rintro e w3 ⟨rfl, hq3⟩; rw [HFM.out])))))
    all_goals (go_ret; exact ⟨by first | rfl | simp, by repeat (first | exact Ext.refl _ | assumption | refine Ext.alloc ?_ _ | refine Ext.drew ?_ | refine Ext.drewN ?_ _ | refine Ext.trans ?_ (by assumption))⟩)
  obtain ⟨k1, hk1⟩ : ∃ x, (findT l).size = x := ⟨_, rfl⟩
  obtain ⟨k2, hk2⟩ : ∃ x, (findT k).size = x := ⟨_, rfl⟩
  obtain ⟨k3, hk3⟩ : ∃ x, (findT (l ++ k)).size = x := ⟨_, rfl⟩
  have hap := find_app l k
  rw [hk1, hk2, hk3] at hap
  have b1 := find_len l
  have b2 := find_len k
  have hll := HLL.out
  have hlm := HLM.out
  rw [hk1] at b1
  rw [hk2] at b2
  have habm : allB (l ++ k) = true := by rw [allB_app, hal, ham]; rfl
  have i2 := IntWalk.i64_in ((k1 : Int) + (k2 : Int)) (by omega)
  have i3 := IntWalk.i64_in ((k1 : Int) + 1) (by omega)
  have q2 : (k3 : Int) ≤ (k1 : Int) + (k2 : Int) := by omega
  go_enter Tryz.func5, Tryz.ntmps5
  go_wp2_with (first
    | (go_at_call 15; go_loud ((with_reducible refine (shalive_any _ (HG.out.ext (by repeat (first | exact Ext.refl _ | assumption | refine Ext.alloc ?_ _ | refine Ext.drew ?_ | refine Ext.drewN ?_ _ | refine Ext.trans ?_ (by assumption))))).mono ?_); rintro e w1 ⟨rfl, hq1⟩))
    | (go_at_call 16; (first | ((with_reducible refine (few_any n c A l _ (HL.out.ext (by repeat (first | exact Ext.refl _ | assumption | refine Ext.alloc ?_ _ | refine Ext.drew ?_ | refine Ext.drewN ?_ _ | refine Ext.trans ?_ (by assumption)))) HN.out).mono ?_); rintro e w2 ⟨rfl, hq2⟩; rw [HFE.out]) | (go_loud ((with_reducible refine (few_any m d B k _ (HM.out.ext (by repeat (first | exact Ext.refl _ | assumption | refine Ext.alloc ?_ _ | refine Ext.drew ?_ | refine Ext.drewN ?_ _ | refine Ext.trans ?_ (by assumption)))) HNM.out).mono ?_); rintro e w3 ⟨rfl, hq3⟩; rw [HFM.out]))))
    | (go_at_call 17; (first | ((with_reducible refine (size_c (HB3.out.ext (by repeat (first | exact Ext.refl _ | assumption | refine Ext.alloc ?_ _ | refine Ext.drew ?_ | refine Ext.drewN ?_ _ | refine Ext.trans ?_ (by assumption)))) habm (by omega) hk3).mono ?_); rintro e w6 ⟨rfl, hq6⟩) | ((with_reducible refine (size_c (HL.out.ext (by repeat (first | exact Ext.refl _ | assumption | refine Ext.alloc ?_ _ | refine Ext.drew ?_ | refine Ext.drewN ?_ _ | refine Ext.trans ?_ (by assumption)))) hal (by omega) hk1).mono ?_); rintro e w4 ⟨rfl, hq4⟩) | (go_loud ((with_reducible refine (size_c (HM.out.ext (by repeat (first | exact Ext.refl _ | assumption | refine Ext.alloc ?_ _ | refine Ext.drew ?_ | refine Ext.drewN ?_ _ | refine Ext.trans ?_ (by assumption)))) ham (by omega) hk2).mono ?_); rintro e w5 ⟨rfl, hq5⟩))))
    | (at_builtin; (first | (refine wpList_append_vecs (S := shSt) (w := w) (L := l) (k := n) (xs := k) 35 39 (.agg #[.int .u8 0, .bool false, .int .i64 0, .int .i64 0]) 24 (by rfl) (by rfl) Tryz.underlying35 info_st (by rfl) (by omega) (by rfl) (by rfl) HO1.out (hx1.out.trans (by repeat (first | exact Ext.refl _ | assumption | refine Ext.alloc ?_ _ | refine Ext.drew ?_ | refine Ext.drewN ?_ _ | refine Ext.trans ?_ (by assumption)))) (HM.out.ext (hx1.out.trans (by repeat (first | exact Ext.refl _ | assumption | refine Ext.alloc ?_ _ | refine Ext.drew ?_ | refine Ext.drewN ?_ _ | refine Ext.trans ?_ (by assumption))))) (by omega) ?_; intro v8 w8 hown8 hx8; obtain ⟨A8, c8, rfl, hv8⟩ := own_vec hown8; have HB3 := Lib.hid hv8; clear hv8 hown8; have hq8 := hx8.out) | (go_loud (refine wpList_append_vecs (S := shSt) (w := w) (L := []) (k := 0) (xs := l) 35 39 (.agg #[.int .u8 0, .bool false, .int .i64 0, .int .i64 0]) 24 (by rfl) (by rfl) Tryz.underlying35 info_st (by rfl) (by omega) (by rfl) (by rfl) (OwnV.empty_ shSt (heap_alloc_new _ _) (Below.size (by repeat (first | exact Ext.refl _ | assumption | refine Ext.alloc ?_ _ | refine Ext.drew ?_ | refine Ext.drewN ?_ _ | refine Ext.trans ?_ (by assumption)) : Ext w w5))) (by repeat (first | exact Ext.refl _ | assumption | refine Ext.alloc ?_ _ | refine Ext.drew ?_ | refine Ext.drewN ?_ _ | refine Ext.trans ?_ (by assumption))) (HL.out.ext (by repeat (first | exact Ext.refl _ | assumption | refine Ext.alloc ?_ _ | refine Ext.drew ?_ | refine Ext.drewN ?_ _ | refine Ext.trans ?_ (by assumption)))) (by omega) ?_; intro v7 w7 hown7 hx1; have HO1 := Lib.hid (show OwnV shSt w7 w.heap.size 39 v7 n l by simpa using hown7); clear hown7)))))
  have HE9 := Lib.hid (show Ext w w6 by repeat (first | exact Ext.refl _ | assumption | refine Ext.alloc ?_ _ | refine Ext.drew ?_ | refine Ext.drewN ?_ _ | refine Ext.trans ?_ (by assumption)))
  clear HO1 HB3 hq8 hx8 hx1 hq1 hq2 hq3 hq4 hq5 hq6
  go_loopw [11, 12] (fun u i wr => ∃ (V : Value) (q Q : Nat), V = u ∧ i = .int .i64 q ∧ (q : Int) ≤ times ∧ Q ≤ 60 ∧ Hid (Q = q * n) ∧ Hid (OwnV shSt wr w.heap.size 39 V Q (rep q l)) ∧ Hid (Ext w wr)) (fun _ i _ => times.toNat - (intOf i).toNat)
  case atStart => exact ⟨_, 0, 0, rfl, rfl, by omega, by omega, Lib.hid (by simp), Lib.hid (OwnV.nil _ _ _ _), HE9⟩
  case round =>
    clear HE9
    obtain ⟨V, q, Q, rfl, rfl, hqt, hQ60, HQ, HO, HE⟩ := hrel
    obtain ⟨A9, c9, rfl, hv9⟩ := own_vec HO.out
    have HV9 := Lib.hid hv9
    clear hv9
    have j1 := IntWalk.i64_in ((Q : Int) + (n : Int)) (by omega)
    have j2 := IntWalk.i64_in ((q : Int) + 1) (by omega)
    by_cases hgo : (q : Int) < times ∧ Q + n ≤ 60
    · obtain ⟨g1, g2⟩ := hgo
      have g3 : (Q : Int) + (n : Int) ≤ 60 := by omega
      go_wp2_with (at_builtin; go_loud (refine wpList_append_vecs (S := shSt) (w := w) (L := rep q l) (k := Q) (xs := l) 35 39 (.agg #[.int .u8 0, .bool false, .int .i64 0, .int .i64 0]) 24 (by rfl) (by rfl) Tryz.underlying35 info_st (by rfl) (by omega) (by rfl) (by rfl) (HO.out.ext (by repeat (first | exact Ext.refl _ | assumption | refine Ext.alloc ?_ _ | refine Ext.drew ?_ | refine Ext.drewN ?_ _ | refine Ext.trans ?_ (by assumption)))) (HE.out.trans (by repeat (first | exact Ext.refl _ | assumption | refine Ext.alloc ?_ _ | refine Ext.drew ?_ | refine Ext.drewN ?_ _ | refine Ext.trans ?_ (by assumption)))) (HL.out.ext (HE.out.trans (by repeat (first | exact Ext.refl _ | assumption | refine Ext.alloc ?_ _ | refine Ext.drew ?_ | refine Ext.drewN ?_ _ | refine Ext.trans ?_ (by assumption))))) (by omega) ?_; intro v8 w8 hown8 hx8))
      go_roundw
      case rel => exact ⟨v8, q + 1, Q + n, rfl, by go_num, by omega, g2, Lib.hid (by rw [HQ.out, Nat.add_mul, Nat.one_mul]), Lib.hid (by rw [rep_snoc]; exact hown8), hx8⟩
      case measure => simp [intOf]; omega
    · have hq1 : 1 ≤ q := by
        rcases Nat.eq_zero_or_pos q with h | h
        · exfalso
          have hQ0 := HQ.out
          rw [h, Nat.zero_mul] at hQ0
          apply hgo
          constructor <;> omega
        · exact h
      obtain ⟨k4, hk4⟩ : ∃ x, (findT (rep q l)).size = x := ⟨_, rfl⟩
      have hrp := find_rep q l hq1
      rw [hk1, hk4] at hrp
      have g4 : (k4 : Int) ≤ (k1 : Int) + 1 := by omega
      have HRA := Lib.hid (rep_all (n := q) hal)
      by_cases g5 : (q : Int) < times
      · have g6 : ¬ ((Q : Int) + (n : Int) ≤ 60) := by omega
        go_wp2_with (go_at_call 17; go_loud ((with_reducible refine (size_c (HV9.out.ext (by repeat (first | exact Ext.refl _ | assumption | refine Ext.alloc ?_ _ | refine Ext.drew ?_ | refine Ext.drewN ?_ _ | refine Ext.trans ?_ (by assumption)))) HRA.out hQ60 hk4).mono ?_); rintro e w9 ⟨rfl, hq9⟩))
        all_goals (go_ret; exact ⟨by first | rfl | simp, HE.out.trans (by repeat (first | exact Ext.refl _ | assumption | refine Ext.alloc ?_ _ | refine Ext.drew ?_ | refine Ext.drewN ?_ _ | refine Ext.trans ?_ (by assumption)))⟩)
      · go_wp2_with (go_at_call 17; go_loud ((with_reducible refine (size_c (HV9.out.ext (by repeat (first | exact Ext.refl _ | assumption | refine Ext.alloc ?_ _ | refine Ext.drew ?_ | refine Ext.drewN ?_ _ | refine Ext.trans ?_ (by assumption)))) HRA.out hQ60 hk4).mono ?_); rintro e w9 ⟨rfl, hq9⟩))
        all_goals (go_ret; exact ⟨by first | rfl | simp, HE.out.trans (by repeat (first | exact Ext.refl _ | assumption | refine Ext.alloc ?_ _ | refine Ext.drew ?_ | refine Ext.drewN ?_ _ | refine Ext.trans ?_ (by assumption)))⟩)

set_option maxRecDepth 100000 in
theorem shortestJoins_lifted (os : Os) (started : os.Started) (H : Type) (enc : TypeId × Value → H) :
    ReturnsInHanded {} Tryz.checked os 5 .any (fun w args => (Rows.shortestJoinsSpec.pre enc Tryz.prog Tryz.f5 [] false w args ∧ laidMetH Tryz.prog [("math/bits.deBruijn32tab", Rows.laid_math_bits_deBruijn32tab), ("math/bits.deBruijn64tab", Rows.laid_math_bits_deBruijn64tab), ("internal/strconv.uint64pow10", Rows.laid_internal_strconv_uint64pow10), ("unicode/utf8.acceptRanges", Rows.laid_unicode_utf8_acceptRanges), ("strconv.ErrRange", Rows.laid_strconv_ErrRange), ("strconv.ErrSyntax", Rows.laid_strconv_ErrSyntax), ("unicode/utf8.first", Rows.laid_unicode_utf8_first)] w) ∧ sizedMet enc Tryz.prog Tryz.f5 (OpenSpec.ofChange Rows.shortestJoinsSpec) false w args)
      (Rows.shortestJoinsSpec.post enc Tryz.prog Tryz.f5 false true false false) := by
  refine returns_laid (C := Tryz.checked) (X := fun w _ => laidMetH Tryz.prog [("math/bits.deBruijn32tab", Rows.laid_math_bits_deBruijn32tab), ("math/bits.deBruijn64tab", Rows.laid_math_bits_deBruijn64tab), ("internal/strconv.uint64pow10", Rows.laid_internal_strconv_uint64pow10), ("unicode/utf8.acceptRanges", Rows.laid_unicode_utf8_acceptRanges), ("strconv.ErrRange", Rows.laid_strconv_ErrRange), ("strconv.ErrSyntax", Rows.laid_strconv_ErrSyntax), ("unicode/utf8.first", Rows.laid_unicode_utf8_first)] w) (fun _ _ _ hh h => h.of_heap hh) own started (by kernel_rfl) Tryz.func5
    (ChangeSpec.witness_shaped (enc := enc) (C := Tryz.checked) (os := os) (X := fun w _ => laidMetH Tryz.prog [("math/bits.deBruijn32tab", Rows.laid_math_bits_deBruijn32tab), ("math/bits.deBruijn64tab", Rows.laid_math_bits_deBruijn64tab), ("internal/strconv.uint64pow10", Rows.laid_internal_strconv_uint64pow10), ("unicode/utf8.acceptRanges", Rows.laid_unicode_utf8_acceptRanges), ("strconv.ErrRange", Rows.laid_strconv_ErrRange), ("strconv.ErrSyntax", Rows.laid_strconv_ErrSyntax), ("unicode/utf8.first", Rows.laid_unicode_utf8_first)] w) false (World.laidAll Tryz.prog os [("math/bits.deBruijn32tab", Rows.laid_math_bits_deBruijn32tab), ("math/bits.deBruijn64tab", Rows.laid_math_bits_deBruijn64tab), ("internal/strconv.uint64pow10", Rows.laid_internal_strconv_uint64pow10), ("unicode/utf8.acceptRanges", Rows.laid_unicode_utf8_acceptRanges), ("strconv.ErrRange", Rows.laid_strconv_ErrRange), ("strconv.ErrSyntax", Rows.laid_strconv_ErrSyntax), ("unicode/utf8.first", Rows.laid_unicode_utf8_first)]) #[.slice none 0 0, .slice none 0 0, .int .i64 0] 8 (World.laidAll_os _ _ _)
      (World.shaped_of_ZipB (by kernel_rfl) (by kernel_rfl)) (by kernel_rfl) (by kernel_rfl) (by kernel_rfl)
      (by rw [MakeChecks.laidMetH_plain _ _ _ (by kernel_rfl)]; exact laidMet_laidAll _ (by kernel_rfl) (by kernel_rfl))) ?_
  intro W base args ds gs before hval0 hW hL hsh
  have hval : ∀ (j : Nat) t v, Tryz.f5.params[j]? = some t → args[j]? = some v → Value.okWide Tryz.prog W .any base t v := hval0
  have hW' := hW
  obtain ⟨p, q, hA0, hV, rfl, hfz, hnd⟩ := hW
  have hA : DataW.TrodAll enc Tryz.prog W 0 (fun _ => true) true Tryz.f5.params.toList args.toList ds p := hA0
  rw [Tryz.params5] at hA hval
  obtain ⟨v0, vs0, d0, ds0, p0, q0, hargs, rfl, rfl, h0, r0⟩ := trodAll_cons hA
  obtain ⟨v1, vs1, d1, ds1, p1, q1, rfl, rfl, rfl, h1, r1⟩ := trodAll_cons r0
  obtain ⟨v2, vs2, d2, ds2, p2, q2, rfl, rfl, rfl, h2, r2⟩ := trodAll_cons r1
  obtain ⟨rfl, rfl, rfl⟩ := trodAll_nil r2
  obtain rfl : args = #[v0, v1, v2] := by cases args; simp_all
  obtain ⟨rfl, rfl⟩ := trodVars_none hV
  obtain ⟨Aa, na, ca, a, rfl, hia, hma, hya⟩ := open_sts_arg (hval 0 35 v0 rfl rfl) h0
  obtain ⟨Ab, nb, cb, b, rfl, hib, hmb, hyb⟩ := open_sts_arg (hval 1 35 v1 rfl rfl) h1
  obtain ⟨times, rfl, rfl, -, -⟩ := open_int Tryz.underlying3 (hval 2 3 v2 rfl rfl) h2
  rw [MakeChecks.laidMetH_plain _ _ _ (by kernel_rfl)] at hL
  have hG := glob_of hL hsh
  refine (shortestJoins_walk na ca nb cb Aa Ab a b times W hia hib hma hmb hG).mono fun e W' ⟨he, hg⟩ => ?_
  subst he
  exact ⟨_, rfl, law_post laid_out rfl Tryz.underlying4 (by kernel_rfl) rfl hW' rfl hg⟩

theorem shortestJoins_holds : Rows.ShortestJoinsSaid :=
  OpenClaim.holds_of_wide 5 Tryz.f5 rfl rfl rfl rfl rfl rfl rfl ⟨rfl, rfl, rfl, rfl, rfl⟩ rfl rfl rfl rfl rfl (by kernel_rfl) Tryz.func5 (by kernel_rfl)
    (of_decide_eq_true (by kernel_rfl)) (by unfold Func.isWrapper; first | (rw [if_pos (by decide +kernel)]; kernel_rfl) | (rw [if_neg (by decide +kernel)]; exact ⟨rfl, rfl⟩))
    (fun os started H enc _ => shortestJoins_lifted os started H enc)

theorem shortestJoins_card : Rows.ShortestJoinsCardSaid :=
  Claim7.holds_tied_plain_at .later [] [.data, .data, .data, .data, .sentinel, .sentinel, .pinned] true (true, "e5f9bd0f772c11d510c8057603114c1f06b52d64d41fd05283189a068ebb2edc") true
    shortestJoins_holds (fun _ h => by cases h) (by kernel_rfl) (fun _ h => by cases h) shortestJoins_row_tie rfl ⟨rfl, rfl⟩ (by kernel_rfl) rfl
    (fun f fn hf hfn => by
      obtain rfl : f = 5 := Option.some.inj ((show Tryz.prog.funcNamed "raddle/raddlelaw42.ShortestJoins" = some 5 by kernel_rfl).symm.trans hf) |>.symm
      obtain rfl : fn = Tryz.f5 := (Option.some.inj (Tryz.func5.symm.trans hfn)).symm
      exact ⟨by kernel_rfl, fun j t ht => by
        rw [Tryz.params5] at ht
        have hm : t ∈ [35, 35, 3] := by simpa using Array.mem_of_getElem? ht
        have hall : ([35, 35, 3].all fun u => !Tryz.prog.wantsStandIn u) = true := by kernel_rfl
        exact (show Tryz.prog.wantsStandIn t = false by simpa using List.all_eq_true.1 hall t hm)⟩)
    (by kernel_rfl)
end Go.Proofs.YtfbfkoeaihknoaaGreatDoor
