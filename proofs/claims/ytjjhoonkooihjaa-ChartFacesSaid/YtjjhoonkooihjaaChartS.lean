/- The contracts of the reference's Counts, Great, SameInts, Same, and of Same of charts. -/
import Derived.Test.YtjjhoonkooihjaaChartR
namespace Go.Proofs.Ytjjhoonkooihjaa
open Go.RowKit Go.ChangeShapes Go.WideShapes Go.Joins
set_option maxHeartbeats 1000000 in
theorem rccounts_any (s : Int) (A : Option Addr) (m c : Nat) (rows : List Ro) (w : World) (hr : Rws w (fun _ => True) A m rows) :
    Calls Try.prog 12 #[.agg #[.int .i64 s, .slice A m c]] w (CntR s rows w) := by
  have HR0 := Lib.hid hr
  by_cases h0 : chkC s rows = 0
  · have HX := Lib.hid h0
    have HL := Lib.hid (show (if chkC s rows = 0 then cntC s rows else []) = cntC s rows by rw [if_pos h0])
    clear hr h0
    go_enter Try.func12, Try.ntmps12
    go_wp2_with (first
      | (go_at_call 14; ((with_reducible refine (rccheck_any s A m c rows _ (HR0.out.ext (by repeat (first | exact Ext.refl _ | assumption | refine Ext.alloc ?_ _ | refine Ext.drew ?_ | refine Ext.drewN ?_ _ | refine Ext.trans ?_ (by assumption))))).mono ?_); rintro e w1 ⟨rfl, hq1⟩; rw [HX.out]; obtain ⟨hf1, hf2, hf3⟩ := hq1.facts))
      | (go_at_call 26; ((with_reducible refine (rcounted_any s A m c rows _ (HR0.out.ext (by repeat (first | exact Ext.refl _ | assumption | refine Ext.alloc ?_ _ | refine Ext.drew ?_ | refine Ext.drewN ?_ _ | refine Ext.trans ?_ (by assumption)))) HX.out).mono ?_); rintro e w2 ⟨A2, n2, c2, rfl, hq2, hi2, hi3⟩)))
    go_ret2
    exact CntR.mk A2 n2 c2 HX.out HL.out rfl (by repeat (first | exact Ext.refl _ | assumption | refine Ext.alloc ?_ _ | refine Ext.drew ?_ | refine Ext.drewN ?_ _ | refine Ext.trans ?_ (by assumption))) hi2 (fun b off e => Nat.le_trans (Below.size (show Ext w _ by repeat (first | exact Ext.refl _ | assumption | refine Ext.alloc ?_ _ | refine Ext.drew ?_ | refine Ext.drewN ?_ _ | refine Ext.trans ?_ (by assumption)))) (hi3 b off e))
  · have HL := Lib.hid (show (if chkC s rows = 0 then cntC s rows else []) = [] by rw [if_neg h0])
    have hb : (chkC s rows != 0) = true := by simpa using h0
    clear hr h0
    generalize hx : chkC s rows = x at *
    have HX := Lib.hid hx
    clear hx
    go_enter Try.func12, Try.ntmps12
    go_wp2_with (first
      | (go_at_call 14; ((with_reducible refine (rccheck_any s A m c rows _ (HR0.out.ext (by repeat (first | exact Ext.refl _ | assumption | refine Ext.alloc ?_ _ | refine Ext.drew ?_ | refine Ext.drewN ?_ _ | refine Ext.trans ?_ (by assumption))))).mono ?_); rintro e w1 ⟨rfl, hq1⟩; rw [HX.out]; obtain ⟨hf1, hf2, hf3⟩ := hq1.facts)))
    go_ret2
    exact CntR.mk none 0 0 HX.out (by rw [HX.out]; exact HL.out) rfl (by repeat (first | exact Ext.refl _ | assumption | refine Ext.alloc ?_ _ | refine Ext.drew ?_ | refine Ext.drewN ?_ _ | refine Ext.trans ?_ (by assumption))) (Ints.none_ _ _) (fun b off e => by cases e)
theorem great_hit {l : List Ro} {k : Nat} (hk : k < l.length) (h1 : k < 150) (h : greatN (l.getD k ro0).cells.length = true) : greatC l = true := by
  have : (l.take 150).any (fun r => greatN r.cells.length) = true := by
    rw [List.any_eq_true]
    refine ⟨l.getD k ro0, ?_, h⟩
    rw [List.getD_eq_getElem?_getD, List.getElem?_eq_getElem hk]
    exact List.mem_take_iff_getElem.2 ⟨k, by omega, rfl⟩
  rw [greatC, this]; rfl
theorem great_miss {l : List Ro} (h : ∀ k, k < l.length → k < 150 → greatN (l.getD k ro0).cells.length = false) : greatC l = ((decide (12 < l.length) && decide (l.length ≤ 100)) || decide (150 < l.length)) := by
  have : (l.take 150).any (fun r => greatN r.cells.length) = false := by
    rw [List.any_eq_false]
    intro x hx
    obtain ⟨k, hk, rfl⟩ := List.mem_take_iff_getElem.1 hx
    have := h k (by omega) (by omega)
    rw [List.getD_eq_getElem?_getD, List.getElem?_eq_getElem (by omega)] at this
    simpa using this
  rw [greatC, this]; simp
set_option maxRecDepth 100000 in
set_option maxHeartbeats 4000000 in
theorem cgreat_any (s : Int) (A : Option Addr) (m c : Nat) (rows : List Ro) (w : World) (hr : Rws w (fun _ => True) A m rows) :
    Calls Try.prog 6 #[.agg #[.int .i64 s, .slice A m c]] w fun e w' => e = .returned (.bool (greatC rows)) ∧ Ext w w' := by
  have hml := hr.len
  have hmm := hr.1
  unfold maxLen at hmm
  have hm2 : (m : Int) ≤ 9223372036854775807 := by omega
  have HR := Lib.hid hr
  have HL := Lib.hid hml
  clear hr hml hmm
  go_enter Try.func6, Try.ntmps6
  go_wp2_with fail
  go_loopw [3] (fun i wr => ∃ (k : Nat), i = .int .i64 k ∧ k ≤ m ∧ Hid (∀ j, j < k → greatN (rows.getD j ro0).cells.length = false) ∧ Hid (Ext (w.alloc (.cells #[.int .i64 s, .slice A m c] 24)) wr)) (fun i _ => m - (intOf i).toNat)
  case atStart => exact ⟨0, rfl, Nat.zero_le _, Lib.hid (fun j hj => absurd hj (by omega)), Lib.hid (by repeat (first | exact Ext.refl _ | assumption | refine Ext.alloc ?_ _ | refine Ext.drew ?_ | refine Ext.drewN ?_ _ | refine Ext.trans ?_ (by assumption)))⟩
  case round =>
    obtain ⟨k, rfl, hk, HG, HX⟩ := hrel
    by_cases hlt : k < m
    · by_cases h150 : k < 150
      · obtain ⟨b, off, A', m', c', rfl, hb0, -, d0, d1, hv, hm', hby, -⟩ := (HR.out.ext ((Ext.alloc (Ext.refl w) _).trans HX.out)).at_ hlt
        have q0 : (0 : Int) ≤ (k : Int) := by omega
        have q1 : (k : Int) < (m : Int) := by omega
        have HW := Lib.hid hv
        have hby := Lib.hid hby
        have hm' := Lib.hid hm'
        have hx := HX.out
        obtain ⟨hf1, hf2, hf3⟩ := hx.facts
        have HD := Lib.hid (dropRo (l := rows) (k := k) (by rw [HL.out]; exact hlt))
        clear hv
        generalize hrow : rows.getD k ro0 = row at *
        have HROW := Lib.hid hrow
        have hcl := HW.out.1
        clear hrow
        cases hg : greatN row.cells.length
        · have HGR := Lib.hid (show greatN m' = false by rw [← hcl]; exact hg)
          have HN := Lib.hid (show ∀ j, j < k + 1 → greatN (rows.getD j ro0).cells.length = false from fun j hj => by
            rcases Nat.lt_or_ge j k with h | h
            · exact HG.out j h
            · obtain rfl : j = k := by omega
              rw [HROW.out]; exact hg)
          clear hg hcl
          go_wp2_with (first | (go_at_call 24; ((with_reducible refine (great_any m' c' A' _ hm'.out).mono ?_); rintro e w1 ⟨rfl, hq1⟩; rw [HGR.out])))
          go_roundw
          case rel => exact ⟨k + 1, by go_num, by omega, HN, Lib.hid (by repeat (first | exact Ext.refl _ | assumption | refine Ext.alloc ?_ _ | refine Ext.drew ?_ | refine Ext.drewN ?_ _ | refine Ext.trans ?_ (by assumption)))⟩
          case measure => simp [intOf]; omega
        · have HGR := Lib.hid (show greatN m' = true by rw [← hcl]; exact hg)
          have HN := Lib.hid (great_hit (l := rows) (k := k) (by rw [HL.out]; exact hlt) h150 (by rw [HROW.out]; exact hg))
          clear hg hcl
          go_wp2_with (first | (go_at_call 24; ((with_reducible refine (great_any m' c' A' _ hm'.out).mono ?_); rintro e w1 ⟨rfl, hq1⟩; rw [HGR.out])))
          go_ret
          exact ⟨by rw [HN.out]; rfl, (Ext.alloc (Ext.refl w) _).trans (by repeat (first | exact Ext.refl _ | assumption | refine Ext.alloc ?_ _ | refine Ext.drew ?_ | refine Ext.drewN ?_ _ | refine Ext.trans ?_ (by assumption)))⟩
      · have h150b : decide ((k : Int) < 150) = false := by simp; omega
        have HN := Lib.hid (show greatC rows = true by
          have : decide (150 < rows.length) = true := by simp; rw [HL.out]; omega
          rw [great_miss (fun j hj h1 => HG.out j (by omega)), this]; simp)
        have hx := HX.out
        obtain ⟨hf1, hf2, hf3⟩ := hx.facts
        by_cases hm1 : 150 < m
        · go_wp2_with fail
          go_ret
          exact ⟨by rw [HN.out]; simp; omega, (Ext.alloc (Ext.refl w) _).trans hx⟩
        · exact absurd (show 150 < m by omega) hm1
    · obtain rfl : k = m := by omega
      have hx := HX.out
      obtain ⟨hf1, hf2, hf3⟩ := hx.facts
      have HN := Lib.hid (great_miss (l := rows) (fun j hj _ => HG.out j (by rw [HL.out] at hj; exact hj)))
      by_cases h12 : 12 < k
      · by_cases h100 : k ≤ 100
        · have HV := Lib.hid (show greatC rows = true by rw [HN.out, HL.out, decide_eq_true h12, decide_eq_true h100]; rfl)
          go_wp2_with fail
          go_ret
          exact ⟨by rw [HV.out]; rfl, (Ext.alloc (Ext.refl w) _).trans hx⟩
        · have hd : decide ((k : Int) ≤ 100) = false := by simp; omega
          by_cases h150 : 150 < k
          · have HV := Lib.hid (show greatC rows = true by rw [HN.out, HL.out, decide_eq_true h150]; simp)
            go_wp2_with fail
            go_ret
            exact ⟨by rw [HV.out]; first | rfl | (simp; omega), (Ext.alloc (Ext.refl w) _).trans hx⟩
          · have HV := Lib.hid (show greatC rows = false by rw [HN.out, HL.out, decide_eq_false h150, decide_eq_false h100]; simp)
            have hd2 : decide ((150 : Int) < (k : Int)) = false := by simp; omega
            go_wp2_with fail
            go_ret
            exact ⟨by rw [HV.out]; rfl, (Ext.alloc (Ext.refl w) _).trans hx⟩
      · have hd : decide ((12 : Int) < (k : Int)) = false := by simp; omega
        have hd2 : decide ((150 : Int) < (k : Int)) = false := by simp; omega
        have HV := Lib.hid (show greatC rows = false by rw [HN.out, HL.out, decide_eq_false h12, decide_eq_false (show ¬ 150 < k by omega)]; simp)
        go_wp2_with fail
        go_ret
        exact ⟨by rw [HV.out]; rfl, (Ext.alloc (Ext.refl w) _).trans hx⟩
set_option maxHeartbeats 1000000 in
theorem sameints_any (n m c d : Nat) (A B : Option Addr) (xs : List Int) (w : World) (hx : Ints w A n xs) (hy : Ints w B m xs) (hn : n ≤ maxLen) :
    Calls Try.prog 15 #[.slice A n c, .slice B m d] w fun e w' => e = .returned (.bool true) ∧ Ext w w' := by
  obtain rfl : n = m := hx.1.symm.trans hy.1
  have HX := Lib.hid hx
  have HY := Lib.hid hy
  unfold maxLen at hn
  have hn2 : (n : Int) ≤ 9223372036854775807 := by omega
  clear hx hy hn
  go_enter Try.func15, Try.ntmps15
  go_wp2_with fail
  go_loopw [5] (fun i wr => ∃ k : Nat, k ≤ n ∧ i = .int .i64 k ∧ Hid (Ext w wr)) (fun i _ => n - (intOf i).toNat)
  case atStart => exact ⟨0, by omega, rfl, Ext.refl _⟩
  case round =>
    obtain ⟨k, hk, rfl, hext⟩ := hrel
    have := hext.out
    by_cases hlt : k < n
    · obtain ⟨b, off, rfl, hb, hc⟩ := (HX.out.ext hext.out).2 (by omega)
      obtain ⟨b', off', rfl, hb', hc'⟩ := (HY.out.ext hext.out).2 (by omega)
      have h1 := hc k hlt
      have h2 := hc' k hlt
      clear hc hc'
      have q0 : (0 : Int) ≤ (k : Int) := by omega
      have q1 : (k : Int) < (n : Int) := by omega
      generalize xs.getD k 0 = x at *
      go_wp2_with fail
      go_quiet (fail)
      go_wp2
      go_roundw
      case rel => exact ⟨k + 1, by omega, by go_num, by repeat (first | exact Ext.refl _ | assumption | refine Ext.alloc ?_ _ | refine Ext.drew ?_ | refine Ext.drewN ?_ _ | refine Ext.trans ?_ (by assumption))⟩
      case measure => simp [intOf]; omega
    · obtain rfl : k = n := by omega
      go_wp2
      go_ret
      exact ⟨rfl, hext.out⟩
end Go.Proofs.Ytjjhoonkooihjaa
