/- Each row of a valid chart uses what the one before makes, and all rows together make as many loops more than they use as the last count is more than the first; for any chart of at most 12 rows of at most 60 cells, or too many. -/
import Derived.Test.YtjjhoonkooihjaaGreatDoorG16
import Derived.Test.YtjjhoonkooihjaaGreatDoorG12
import Derived.Test.YtjjhoonkooihjaaGreatDoorG04
import Derived.Test.YtjjhoonkooihjaaGreatDoorCards
namespace Go.Proofs.YtjjhoonkooihjaaGreatDoor
set_option maxRecDepth 100000
set_option maxRecDepth 100000
open Go.ChangeShapes Go.WideShapes Go.ChangeAt Go.RowKit Go.Joins
/-- the cells of the counts -/
theorem cnt_ends {s : Int} {l : List Ro} {w : World} {A : Option Addr} {m : Nat} (h : Ints w A (m + 1) (cntC s l)) (hm : l.length = m) :
    ∃ b off, A = some ⟨b, off, none⟩ ∧ b < w.heap.size ∧ w.cell? ⟨b, off, none⟩ = some (.int .i64 s) ∧ w.cell? ⟨b, off + m, none⟩ = some (.int .i64 ((cntC s l).getD m 0)) ∧ ∀ k, k ≤ m → w.cell? ⟨b, off + k, none⟩ = some (.int .i64 ((cntC s l).getD k 0)) := by
  obtain ⟨b, off, e, hb, hc⟩ := h.2 (by omega)
  exact ⟨b, off, e, hb, hc 0 (by omega), hc m (by omega), fun k hk => hc k (by omega)⟩
set_option maxHeartbeats 8000000 in
theorem chartFits_walk (s : Int) (m c : Nat) (A : Option Addr) (la : List Ro) (w : World) (ha : Rws w (fun _ => True) A m la) (hg : Glob w) :
    Calls Tryz.prog 4 #[.agg #[.int .i64 s, .slice A m c]] w fun e w' => e = .returned (.bool true) ∧ Ext w w' := by
  have HA := Lib.hid ha
  have HG := Lib.hid hg
  have HL := Lib.hid ha.len
  clear ha hg
  have hB0 := Lib.hid (show Ext w (w.alloc (.cells #[.int .i64 s, .slice A m c] 24)) from (Ext.refl _).alloc _)
  have hb : Ext (w.alloc (.cells #[.int .i64 s, .slice A m c] 24)) (w.alloc (.cells #[.int .i64 s, .slice A m c] 24)) := Ext.refl _
  obtain ⟨hc, hf, hz⟩ := hb.facts
  cases hga : greatC la
  case true =>
    have HGA := Lib.hid hga
    clear hga
    go_enter Tryz.func4, Tryz.ntmps4
    go_wp2_with (first
      | (go_at_call 15; go_loud (((with_reducible refine (calive_any _ (HG.out.ext (hB0.out.trans (hb.trans (by repeat (first | exact Ext.refl _ | refine Ext.drew ?_ | refine Ext.drewN ?_ _ | refine Ext.alloc ?_ _)))))).mono ?_); rintro e w1 ⟨rfl, hq1⟩; replace hb := Ext.via hb hq1 (by repeat (first | exact Ext.refl _ | refine Ext.drew ?_ | refine Ext.drewN ?_ _ | refine Ext.alloc ?_ _)); clear hq1; obtain ⟨hc, hf, hz⟩ := hb.facts)))
      | (go_at_call 9; go_loud (((with_reducible refine (cgreat_any s A m c la _ (HA.out.ext (hB0.out.trans (hb.trans (by repeat (first | exact Ext.refl _ | refine Ext.drew ?_ | refine Ext.drewN ?_ _ | refine Ext.alloc ?_ _)))))).mono ?_); rintro e w1 ⟨rfl, hq1⟩; replace hb := Ext.via hb hq1 (by repeat (first | exact Ext.refl _ | refine Ext.drew ?_ | refine Ext.drewN ?_ _ | refine Ext.alloc ?_ _)); clear hq1; rw [HGA.out]; obtain ⟨hc, hf, hz⟩ := hb.facts))))
    go_ret
    exact ⟨rfl, hB0.out.trans hb⟩
  have HGA := Lib.hid hga
  clear hga
  by_cases h0 : chkC s la = 0
  case neg =>
    obtain ⟨x, hx⟩ : ∃ x, chkC s la = x := ⟨_, rfl⟩
    have HC0 := Lib.hid hx
    have hne : (x != 0) = true := by rw [hx] at h0; simpa using h0
    clear h0 hx
    go_enter Tryz.func4, Tryz.ntmps4
    go_wp2_with (first
      | (go_at_call 15; go_loud (((with_reducible refine (calive_any _ (HG.out.ext (hB0.out.trans (hb.trans (by repeat (first | exact Ext.refl _ | refine Ext.drew ?_ | refine Ext.drewN ?_ _ | refine Ext.alloc ?_ _)))))).mono ?_); rintro e w1 ⟨rfl, hq1⟩; replace hb := Ext.via hb hq1 (by repeat (first | exact Ext.refl _ | refine Ext.drew ?_ | refine Ext.drewN ?_ _ | refine Ext.alloc ?_ _)); clear hq1; obtain ⟨hc, hf, hz⟩ := hb.facts)))
      | (go_at_call 9; go_loud (((with_reducible refine (cgreat_any s A m c la _ (HA.out.ext (hB0.out.trans (hb.trans (by repeat (first | exact Ext.refl _ | refine Ext.drew ?_ | refine Ext.drewN ?_ _ | refine Ext.alloc ?_ _)))))).mono ?_); rintro e w1 ⟨rfl, hq1⟩; replace hb := Ext.via hb hq1 (by repeat (first | exact Ext.refl _ | refine Ext.drew ?_ | refine Ext.drewN ?_ _ | refine Ext.alloc ?_ _)); clear hq1; rw [HGA.out]; obtain ⟨hc, hf, hz⟩ := hb.facts)))
      | (go_at_call 16; go_loud (((with_reducible refine (rccheck_any s A m c la _ (HA.out.ext (hB0.out.trans (hb.trans (by repeat (first | exact Ext.refl _ | refine Ext.drew ?_ | refine Ext.drewN ?_ _ | refine Ext.alloc ?_ _)))))).mono ?_); rintro e w1 ⟨rfl, hq1⟩; replace hb := Ext.via hb hq1 (by repeat (first | exact Ext.refl _ | refine Ext.drew ?_ | refine Ext.drewN ?_ _ | refine Ext.alloc ?_ _)); clear hq1; rw [HC0.out]; obtain ⟨hc, hf, hz⟩ := hb.facts))))
    go_ret
    exact ⟨rfl, hB0.out.trans hb⟩
  have HC0 := Lib.hid h0
  have hcb := cnt_bd h0
  have HCB := Lib.hid hcb
  have hm9 : m ≤ 100 := by rw [← HL.out]; exact (chkC_ok h0).1
  have HL1 := Lib.hid (show la.length + 1 = m + 1 by rw [HL.out])
  have p0 := IntWalk.i64_in ((m : Int) + 1) (by omega)
  clear h0 hcb
  go_enter Tryz.func4, Tryz.ntmps4
  go_upto_region 5 with (first
    | (go_at_call 15; go_loud (((with_reducible refine (calive_any _ (HG.out.ext (hB0.out.trans (hb.trans (by repeat (first | exact Ext.refl _ | refine Ext.drew ?_ | refine Ext.drewN ?_ _ | refine Ext.alloc ?_ _)))))).mono ?_); rintro e w1 ⟨rfl, hq1⟩; replace hb := Ext.via hb hq1 (by repeat (first | exact Ext.refl _ | refine Ext.drew ?_ | refine Ext.drewN ?_ _ | refine Ext.alloc ?_ _)); clear hq1; obtain ⟨hc, hf, hz⟩ := hb.facts)))
    | (go_at_call 9; go_loud (((with_reducible refine (cgreat_any s A m c la _ (HA.out.ext (hB0.out.trans (hb.trans (by repeat (first | exact Ext.refl _ | refine Ext.drew ?_ | refine Ext.drewN ?_ _ | refine Ext.alloc ?_ _)))))).mono ?_); rintro e w1 ⟨rfl, hq1⟩; replace hb := Ext.via hb hq1 (by repeat (first | exact Ext.refl _ | refine Ext.drew ?_ | refine Ext.drewN ?_ _ | refine Ext.alloc ?_ _)); clear hq1; rw [HGA.out]; obtain ⟨hc, hf, hz⟩ := hb.facts)))
    | (go_at_call 16; go_loud (((with_reducible refine (rccheck_any s A m c la _ (HA.out.ext (hB0.out.trans (hb.trans (by repeat (first | exact Ext.refl _ | refine Ext.drew ?_ | refine Ext.drewN ?_ _ | refine Ext.alloc ?_ _)))))).mono ?_); rintro e w1 ⟨rfl, hq1⟩; replace hb := Ext.via hb hq1 (by repeat (first | exact Ext.refl _ | refine Ext.drew ?_ | refine Ext.drewN ?_ _ | refine Ext.alloc ?_ _)); clear hq1; rw [HC0.out]; obtain ⟨hc, hf, hz⟩ := hb.facts)))
    | (go_at_call 17; go_loud (((with_reducible refine (ccounts_c (m + 1) (HA.out.ext (hB0.out.trans (hb.trans (by repeat (first | exact Ext.refl _ | refine Ext.drew ?_ | refine Ext.drewN ?_ _ | refine Ext.alloc ?_ _))))) HC0.out rfl HL1.out).mono ?_); rintro e w3 ⟨A1, c1, rfl, hq1, hv1⟩; replace hb := Ext.via hb hq1 (by repeat (first | exact Ext.refl _ | refine Ext.drew ?_ | refine Ext.drewN ?_ _ | refine Ext.alloc ?_ _)); clear hq1; have HV1 := Lib.hid hv1; clear hv1; have HE3 := Lib.hid hb; obtain ⟨b1, o1, rfl, hb1, hn0, hnm, hnl⟩ := cnt_ends HV1.out HL.out; obtain ⟨hc, hf, hz⟩ := hb.facts))))
  obtain ⟨hc, hf, hz⟩ := HE3.out.facts
  have m0 : w3.cell? ⟨w.heap.size, 0, none⟩ = some (.int .i64 s) := by rw [hc _ _ (by simp only [World.size_alloc]; omega)]; simp [go_sem]
  have m1 : w3.cell? ⟨w.heap.size, 1, none⟩ = some (.slice A m c) := by rw [hc _ _ (by simp only [World.size_alloc]; omega)]; simp [go_sem]
  have z0 : w.heap.size < w3.heap.size := hz _ (by simp only [World.size_alloc]; omega)
  have HNL := Lib.hid hnl
  clear hc hf hz hnl hb
  go_quiet (fail)
  obtain ⟨wq, hwq⟩ : ∃ wq, w3.drewN nq = wq := ⟨_, rfl⟩
  have HEQ := Lib.hid (show Ext w3 wq by rw [← hwq]; exact (Ext.refl w3).drewN nq)
  rw [hwq]
  clear hwq
  go_wp2_with fail
  go_loopw [6, 7] (fun u i wr => ∃ k : Nat, u = .int .i64 ((cntC s la).getD k 0 - s) ∧ i = .int .i64 k ∧ k ≤ m ∧ Hid (Ext w3 wr)) (fun _ i _ => m - (intOf i).toNat)
  case atStart => exact ⟨0, by simp [cntC], rfl, by omega, HEQ⟩
  case round =>
    obtain ⟨k, rfl, rfl, hk, HE1⟩ := hrel
    have HEW := Lib.hid (HE3.out.trans HE1.out)
    have HAW := Lib.hid (HA.out.ext (hB0.out.trans HEW.out))
    obtain ⟨hc8, hf8, hz8⟩ := HE1.out.facts
    have m2 := (hc8 _ 0 z0).trans m0
    have m3 := (hc8 _ 1 z0).trans m1
    have z2 := hz8 _ z0
    have z3 := hz8 _ hb1
    have hcu := HCB.out k (by rw [HL.out]; exact hk)
    have hcs := HCB.out 0 (by omega)
    simp only [cntC, List.getD_cons_zero] at hcs
    by_cases hlt : k < m
    · have hkl : k < la.length := by rw [HL.out]; exact hlt
      have HKL := Lib.hid hkl
      obtain ⟨b9, off9, A9, n9, c9, rfl, hlt9, -, d0, d1, hv9, hn9, hby9, -⟩ := HAW.out.at_ hlt
      have HV9 := Lib.hid hv9
      obtain ⟨-, -, hae⟩ := row_ok HC0.out hkl
      obtain ⟨hus, hmk⟩ := row_cnt HC0.out hkl
      have hse := seen_uses hae
      have hcm := HCB.out (k + 1) (by omega)
      have n2 := (hc8 _ (o1 + k) hb1).trans (HNL.out k (by omega))
      have n3 := (hc8 _ (o1 + (k + 1)) hb1).trans (HNL.out (k + 1) (by omega))
      have n4 := n3
      rw [← Nat.add_assoc] at n3
      obtain ⟨U, hU⟩ : ∃ U, (cntC s la).getD k 0 = U := ⟨_, rfl⟩
      obtain ⟨M, hM⟩ : ∃ M, (cntC s la).getD (k + 1) 0 = M := ⟨_, rfl⟩
      obtain ⟨F, hF⟩ : ∃ F, seenL (la.getD k ro0).back (la.getD k ro0).cells = F := ⟨_, rfl⟩
      rw [hF, hus, hU] at hse
      rw [hU] at hus n2 hcu
      rw [hM] at hmk n3 n4 hcm
      rw [hU]
      have HAE := Lib.hid hae
      have HU := Lib.hid hus
      have HM := Lib.hid hmk
      have HF := Lib.hid hF
      have HFE := Lib.hid hse.1
      have HFU := Lib.hid hse.2
      have HMM := Lib.hid hM
      have HW := Lib.hid (Ext.refl wr)
      have q0 : (0 : Int) ≤ (k : Int) := by omega
      have q1 : (k : Int) < (m : Int) := by omega
      have q2 : (k : Int) < (m : Int) + 1 := by omega
      have q3 := IntWalk.i64_in ((k : Int) + 1) (by omega)
      have q4 : (k : Int) + 1 < (m : Int) + 1 := by omega
      have q5 := IntWalk.i64_in (M - U) (by omega)
      have q6 := IntWalk.i64_in (U - s + (M - U)) (by omega)
      clear hkl hv9 hn9 hby9 hae hus hmk hse hU hM hF hc8 hf8 hz8 m0 m1
      go_wp2_with (first
        | (go_at_call 18; (first | ((with_reducible refine (uses_c (HV9.out.ext (HW.out.trans (by repeat (first | exact Ext.refl _ | refine Ext.drew ?_ | refine Ext.drewN ?_ _ | refine Ext.alloc ?_ _)))) HAE.out HU.out).mono ?_); rintro e w4 ⟨rfl, hq⟩; replace HW := Lib.hid (HW.out.trans (Ext.trans (by repeat (first | exact Ext.refl _ | refine Ext.drew ?_ | refine Ext.drewN ?_ _ | refine Ext.alloc ?_ _)) hq)); obtain ⟨g1, g2, g3⟩ := HW.out.facts; clear hq) | (go_loud ((with_reducible refine (uses_c (HVF.out.ext (by repeat (first | exact Ext.refl _ | refine Ext.drew ?_ | refine Ext.drewN ?_ _ | refine Ext.alloc ?_ _))) HFE.out HFU.out).mono ?_); rintro e w7 ⟨rfl, hq⟩; replace HW := Lib.hid (HW.out.trans (Ext.trans (by repeat (first | exact Ext.refl _ | refine Ext.drew ?_ | refine Ext.drewN ?_ _ | refine Ext.alloc ?_ _)) hq)); obtain ⟨g1, g2, g3⟩ := HW.out.facts; clear hq))))
        | (go_at_call 19; (first | ((with_reducible refine (makes_c (HV9.out.ext (HW.out.trans (by repeat (first | exact Ext.refl _ | refine Ext.drew ?_ | refine Ext.drewN ?_ _ | refine Ext.alloc ?_ _)))) HAE.out HM.out).mono ?_); rintro e w5 ⟨rfl, hq⟩; replace HW := Lib.hid (HW.out.trans (Ext.trans (by repeat (first | exact Ext.refl _ | refine Ext.drew ?_ | refine Ext.drewN ?_ _ | refine Ext.alloc ?_ _)) hq)); obtain ⟨g1, g2, g3⟩ := HW.out.facts; clear hq)))
        | (go_at_call 20; (first | (go_loud ((with_reducible refine (cface_c (k : Int) k _ rfl (HAW.out.ext (HW.out.trans (by repeat (first | exact Ext.refl _ | refine Ext.drew ?_ | refine Ext.drewN ?_ _ | refine Ext.alloc ?_ _)))) HC0.out HKL.out HF.out rfl).mono ?_); rintro e w6 ⟨A8, c8, rfl, hq, hv⟩; have HVF := Lib.hid hv; clear hv; replace HW := Lib.hid (HW.out.trans (Ext.trans (by repeat (first | exact Ext.refl _ | refine Ext.drew ?_ | refine Ext.drewN ?_ _ | refine Ext.alloc ?_ _)) hq)); obtain ⟨g1, g2, g3⟩ := HW.out.facts; clear hq)))))
      go_roundw
      case rel => exact ⟨k + 1, by rw [HMM.out]; congr 1; omega, by go_num, by omega, Lib.hid (HE1.out.trans HW.out)⟩
      case measure => simp [intOf]; omega
    · have n5 := (hc8 _ (o1 + m) hb1).trans (HNL.out m (by omega))
      have n6 := (hc8 _ o1 hb1).trans hn0
      have hkm : k = m := by omega
      rw [hkm] at hcu
      rw [hkm]
      clear hk hlt hkm hc8 hf8 hz8
      obtain ⟨M, hM⟩ : ∃ M, (cntC s la).getD m 0 = M := ⟨_, rfl⟩
      rw [hM] at hcu n5
      rw [hM]
      have q0 : (0 : Int) ≤ (m : Int) := by omega
      have q1 : (m : Int) < (m : Int) + 1 := by omega
      have q2 := IntWalk.i64_in ((m : Int) + 1 - 1) (by omega)
      have q3 := IntWalk.i64_in (M - s) (by omega)
      have q4 := IntWalk.i64_in (m : Int) (by omega)
      clear m0 m1
      go_wp2_with fail
      go_quiet (fail)
      go_wp2_with fail
      go_ret
      exact ⟨rfl, hB0.out.trans (HEW.out.trans (by repeat (first | exact Ext.refl _ | assumption | refine Ext.alloc ?_ _ | refine Ext.drew ?_ | refine Ext.drewN ?_ _ | refine Ext.trans ?_ (by assumption))))⟩

set_option maxRecDepth 100000 in
theorem chartFits_lifted (os : Os) (started : os.Started) (H : Type) (enc : TypeId × Value → H) :
    ReturnsInHanded {} Tryz.checked os 4 .any (fun w args => (Rows.chartFitsSpec.pre enc Tryz.prog Tryz.f4 [] false w args ∧ laidMetH Tryz.prog [("math/bits.deBruijn32tab", Rows.laid_math_bits_deBruijn32tab), ("math/bits.deBruijn64tab", Rows.laid_math_bits_deBruijn64tab), ("internal/strconv.uint64pow10", Rows.laid_internal_strconv_uint64pow10), ("unicode/utf8.acceptRanges", Rows.laid_unicode_utf8_acceptRanges), ("strconv.ErrRange", Rows.laid_strconv_ErrRange), ("strconv.ErrSyntax", Rows.laid_strconv_ErrSyntax), ("unicode/utf8.first", Rows.laid_unicode_utf8_first)] w) ∧ sizedMet enc Tryz.prog Tryz.f4 (OpenSpec.ofChange Rows.chartFitsSpec) false w args)
      (Rows.chartFitsSpec.post enc Tryz.prog Tryz.f4 false true false false) := by
  refine returns_laid (C := Tryz.checked) (X := fun w _ => laidMetH Tryz.prog [("math/bits.deBruijn32tab", Rows.laid_math_bits_deBruijn32tab), ("math/bits.deBruijn64tab", Rows.laid_math_bits_deBruijn64tab), ("internal/strconv.uint64pow10", Rows.laid_internal_strconv_uint64pow10), ("unicode/utf8.acceptRanges", Rows.laid_unicode_utf8_acceptRanges), ("strconv.ErrRange", Rows.laid_strconv_ErrRange), ("strconv.ErrSyntax", Rows.laid_strconv_ErrSyntax), ("unicode/utf8.first", Rows.laid_unicode_utf8_first)] w) (fun _ _ _ hh h => h.of_heap hh) own started (by kernel_rfl) Tryz.func4
    (ChangeSpec.witness_shaped (enc := enc) (C := Tryz.checked) (os := os) (X := fun w _ => laidMetH Tryz.prog [("math/bits.deBruijn32tab", Rows.laid_math_bits_deBruijn32tab), ("math/bits.deBruijn64tab", Rows.laid_math_bits_deBruijn64tab), ("internal/strconv.uint64pow10", Rows.laid_internal_strconv_uint64pow10), ("unicode/utf8.acceptRanges", Rows.laid_unicode_utf8_acceptRanges), ("strconv.ErrRange", Rows.laid_strconv_ErrRange), ("strconv.ErrSyntax", Rows.laid_strconv_ErrSyntax), ("unicode/utf8.first", Rows.laid_unicode_utf8_first)] w) false (World.laidAll Tryz.prog os [("math/bits.deBruijn32tab", Rows.laid_math_bits_deBruijn32tab), ("math/bits.deBruijn64tab", Rows.laid_math_bits_deBruijn64tab), ("internal/strconv.uint64pow10", Rows.laid_internal_strconv_uint64pow10), ("unicode/utf8.acceptRanges", Rows.laid_unicode_utf8_acceptRanges), ("strconv.ErrRange", Rows.laid_strconv_ErrRange), ("strconv.ErrSyntax", Rows.laid_strconv_ErrSyntax), ("unicode/utf8.first", Rows.laid_unicode_utf8_first)]) #[.agg #[.int .i64 0, .slice none 0 0]] 8 (World.laidAll_os _ _ _)
      (World.shaped_of_ZipB (by kernel_rfl) (by kernel_rfl)) (by kernel_rfl) (by kernel_rfl) (by kernel_rfl)
      (by rw [MakeChecks.laidMetH_plain _ _ _ (by kernel_rfl)]; exact laidMet_laidAll _ (by kernel_rfl) (by kernel_rfl))) ?_
  intro W base args ds gs before hval0 hW hL hsh
  have hval : ∀ (j : Nat) t v, Tryz.f4.params[j]? = some t → args[j]? = some v → Value.okWide Tryz.prog W .any base t v := hval0
  have hW' := hW
  obtain ⟨p, q, hA0, hV, rfl, hfz, hnd⟩ := hW
  have hA : DataW.TrodAll enc Tryz.prog W 0 (fun _ => true) true Tryz.f4.params.toList args.toList ds p := hA0
  rw [Tryz.params4] at hA hval
  obtain ⟨v0, vs0, d0, ds0, p0, q0, hargs, rfl, rfl, h0, r0⟩ := trodAll_cons hA
  obtain ⟨rfl, rfl, rfl⟩ := trodAll_nil r0
  obtain rfl : args = #[v0] := by cases args; simp_all
  obtain ⟨rfl, rfl⟩ := trodVars_none hV
  obtain ⟨sa, Aa, na, ca, a, rfl, hia⟩ := open_chart_arg (hval 0 24 v0 rfl rfl) h0
  rw [MakeChecks.laidMetH_plain _ _ _ (by kernel_rfl)] at hL
  have hG := glob_of hL hsh
  refine (chartFits_walk sa na ca Aa a W hia hG).mono fun e W' ⟨he, hg⟩ => ?_
  subst he
  exact ⟨_, rfl, law_post laid_out rfl Tryz.underlying4 (by kernel_rfl) rfl hW' rfl hg⟩

theorem chartFits_holds : Rows.ChartFitsSaid :=
  OpenClaim.holds_of_wide 4 Tryz.f4 rfl rfl rfl rfl rfl rfl rfl ⟨rfl, rfl, rfl, rfl, rfl⟩ rfl rfl rfl rfl rfl (by kernel_rfl) Tryz.func4 (by kernel_rfl)
    (of_decide_eq_true (by kernel_rfl)) (by unfold Func.isWrapper; first | (rw [if_pos (by decide +kernel)]; kernel_rfl) | (rw [if_neg (by decide +kernel)]; exact ⟨rfl, rfl⟩))
    (fun os started H enc _ => chartFits_lifted os started H enc)

theorem chartFits_card : Rows.ChartFitsCardSaid :=
  Claim7.holds_tied_plain_at .later [] [.data, .data, .data, .data, .sentinel, .sentinel, .pinned] true (true, "39bfa126c88c4eab7a3d93e3b80aed671d612458207461505dfa1022f9959405") true
    chartFits_holds (fun _ h => by cases h) (by kernel_rfl) (fun _ h => by cases h) chartFits_row_tie rfl ⟨rfl, rfl⟩ (by kernel_rfl) rfl
    (fun f fn hf hfn => by
      obtain rfl : f = 4 := Option.some.inj ((show Tryz.prog.funcNamed "raddle/raddlelaw26.ChartFits" = some 4 by kernel_rfl).symm.trans hf) |>.symm
      obtain rfl : fn = Tryz.f4 := (Option.some.inj (Tryz.func4.symm.trans hfn)).symm
      exact ⟨by kernel_rfl, fun j t ht => by
        rw [Tryz.params4] at ht
        have hm : t ∈ [24] := by simpa using Array.mem_of_getElem? ht
        have hall : ([24].all fun u => !Tryz.prog.wantsStandIn u) = true := by kernel_rfl
        exact (show Tryz.prog.wantsStandIn t = false by simpa using List.all_eq_true.1 hall t hm)⟩)
    (by kernel_rfl)
end Go.Proofs.YtjjhoonkooihjaaGreatDoor
