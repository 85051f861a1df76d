/- The contracts of the reference's Check, Counts, Great and SameInts of charts. -/
import Derived.Test.YtjjhoonkooihjaaChartK
import Derived.Test.YtjjhoonkooihjaaStitchR
namespace Go.Proofs.Ytjjhoonkooihjaa
open Go.RowKit Go.ChangeShapes Go.WideShapes Go.Joins
set_option maxHeartbeats 2000000 in
theorem rccheck_any (s : Int) (A : Option Addr) (m c : Nat) (rows : List Ro) (w : World) (hr : Rws w (fun _ => True) A m rows) :
    Calls Try.prog 14 #[.agg #[.int .i64 s, .slice A m c]] w fun e w' => e = .returned (.int .i64 (chkC s rows)) ∧ Ext w w' := by
  have hml := hr.len
  have hmm := hr.1
  unfold maxLen at hmm
  have hm2 : (m : Int) ≤ 9223372036854775807 := by omega
  have HR := Lib.hid hr
  have HL := Lib.hid hml
  clear hr hml hmm
  by_cases h1 : 100 < m
  · have HE := Lib.hid (show chkC s rows = 4 by rw [chkC, if_pos (by rw [HL.out]; exact h1)])
    go_enter Try.func14, Try.ntmps14
    go_wp2_with fail
    go_ret
    exact ⟨by rw [HE.out]; rfl, by repeat (first | exact Ext.refl _ | assumption | refine Ext.alloc ?_ _ | refine Ext.drew ?_ | refine Ext.drewN ?_ _ | refine Ext.trans ?_ (by assumption))⟩
  have hm3 : decide ((100 : Int) < (m : Int)) = false := by simp; omega
  by_cases h2 : s < 0
  · have HE := Lib.hid (show chkC s rows = 8 by rw [chkC, if_neg (by rw [HL.out]; exact h1), if_pos (.inl h2)])
    go_enter Try.func14, Try.ntmps14
    go_wp2_with fail
    go_ret
    exact ⟨by rw [HE.out]; rfl, by repeat (first | exact Ext.refl _ | assumption | refine Ext.alloc ?_ _ | refine Ext.drew ?_ | refine Ext.drewN ?_ _ | refine Ext.trans ?_ (by assumption))⟩
  have hs2 : decide (s < 0) = false := by simp; omega
  by_cases h3 : 200 < s
  · have HE := Lib.hid (show chkC s rows = 8 by rw [chkC, if_neg (by rw [HL.out]; exact h1), if_pos (.inr h3)])
    go_enter Try.func14, Try.ntmps14
    go_wp2_with fail
    go_ret
    exact ⟨by rw [HE.out]; rfl, by repeat (first | exact Ext.refl _ | assumption | refine Ext.alloc ?_ _ | refine Ext.drew ?_ | refine Ext.drewN ?_ _ | refine Ext.trans ?_ (by assumption))⟩
  have hs3 : decide (200 < s) = false := by simp; omega
  have HE := Lib.hid (show chkC s rows = chkGo s rows by rw [chkC, if_neg (by rw [HL.out]; exact h1), if_neg (by omega)])
  go_enter Try.func14, Try.ntmps14
  go_wp2_with fail
  go_loopw [3, 4] (fun u i wr => ∃ (k : Nat) (q : Int), i = .int .i64 k ∧ u = .int .i64 q ∧ k ≤ m ∧ Hid (chkGo q (rows.drop k) = chkGo s rows) ∧ Hid (Ext (w.alloc (.cells #[.int .i64 s, .slice A m c] 24)) wr)) (fun _ i _ => m - (intOf i).toNat)
  case atStart => exact ⟨0, s, rfl, rfl, Nat.zero_le _, Lib.hid (by simp), Lib.hid (by repeat (first | exact Ext.refl _ | assumption | refine Ext.alloc ?_ _ | refine Ext.drew ?_ | refine Ext.drewN ?_ _ | refine Ext.trans ?_ (by assumption)))⟩
  case round =>
    obtain ⟨k, q, rfl, rfl, hk, HG, HX⟩ := hrel
    by_cases hlt : k < m
    · obtain ⟨b, off, A', m', c', rfl, hb0, -, d0, d1, hv, hm', hby, -⟩ := (HR.out.ext ((Ext.alloc (Ext.refl w) _).trans HX.out)).at_ hlt
      have q0 : (0 : Int) ≤ (k : Int) := by omega
      have q1 : (k : Int) < (m : Int) := by omega
      have HW := Lib.hid hv
      have hby := Lib.hid hby
      have hm' := Lib.hid hm'
      have hx := HX.out
      obtain ⟨hf1, hf2, hf3⟩ := hx.facts
      have HD := Lib.hid (dropRo (l := rows) (k := k) (by rw [HL.out]; exact hlt))
      clear hv
      generalize hrow : rows.getD k ro0 = row at *
      clear hrow
      by_cases h4 : allE row.cells = 0
      · by_cases h5 : usL row.cells = q
        · have HA := Lib.hid h4
          have HU := Lib.hid (show usG row.cells = q by rw [usG_ok h4]; exact h5)
          have HM := Lib.hid (mkG_ok h4)
          have HN := Lib.hid (show chkGo (mkL row.cells) (rows.drop (k + 1)) = chkGo s rows by rw [← HG.out, HD.out, chkGo, if_neg (by simp [h4]), if_neg (by simp [h5])])
          clear h4 h5
          go_wp2_with (first
            | (go_at_call 28; ((with_reducible refine (ruses_any m' c' A' row.cells _ (HW.out.ext (by repeat (first | exact Ext.refl _ | assumption | refine Ext.alloc ?_ _ | refine Ext.drew ?_ | refine Ext.drewN ?_ _ | refine Ext.trans ?_ (by assumption)))) hm'.out).mono ?_); rintro e w1 ⟨rfl, hq1⟩; rw [HA.out, HU.out]; obtain ⟨hg1, hg2, hg3⟩ := (Ext.trans hx hq1).facts; obtain ⟨hh1, hh2, hh3⟩ := hq1.facts))
            | (go_at_call 29; ((with_reducible refine (rmakes_any m' c' A' row.cells _ (HW.out.ext (by repeat (first | exact Ext.refl _ | assumption | refine Ext.alloc ?_ _ | refine Ext.drew ?_ | refine Ext.drewN ?_ _ | refine Ext.trans ?_ (by assumption)))) hm'.out).mono ?_); rintro e w2 ⟨rfl, hq2⟩; rw [HA.out, HM.out])))
          go_roundw
          case rel => exact ⟨k + 1, mkL row.cells, by go_num, rfl, by omega, HN, Lib.hid (by repeat (first | exact Ext.refl _ | assumption | refine Ext.alloc ?_ _ | refine Ext.drew ?_ | refine Ext.drewN ?_ _ | refine Ext.trans ?_ (by assumption)))⟩
          case measure => simp [intOf]; omega
        · have HA := Lib.hid h4
          have hb : (usG row.cells != q) = true := by rw [usG_ok h4]; simpa using h5
          have HN := Lib.hid (show chkGo s rows = 26 by rw [← HG.out, HD.out, chkGo, if_neg (by simp [h4]), if_pos h5])
          clear h4 h5
          go_wp2_with (first | (go_at_call 28; ((with_reducible refine (ruses_any m' c' A' row.cells _ (HW.out.ext (by repeat (first | exact Ext.refl _ | assumption | refine Ext.alloc ?_ _ | refine Ext.drew ?_ | refine Ext.drewN ?_ _ | refine Ext.trans ?_ (by assumption)))) hm'.out).mono ?_); rintro e w1 ⟨rfl, hq1⟩; rw [HA.out])))
          go_ret
          exact ⟨by rw [HE.out, HN.out]; rfl, by have := HX.out; exact (Ext.alloc (Ext.refl w) _).trans (by repeat (first | exact Ext.refl _ | assumption | refine Ext.alloc ?_ _ | refine Ext.drew ?_ | refine Ext.drewN ?_ _ | refine Ext.trans ?_ (by assumption)))⟩
      · have hb : (allE row.cells != 0) = true := by simpa using h4
        have HN := Lib.hid (show chkGo s rows = allE row.cells by rw [← HG.out, HD.out, chkGo, if_pos h4])
        clear h4
        go_wp2_with (first | (go_at_call 28; ((with_reducible refine (ruses_any m' c' A' row.cells _ (HW.out.ext (by repeat (first | exact Ext.refl _ | assumption | refine Ext.alloc ?_ _ | refine Ext.drew ?_ | refine Ext.drewN ?_ _ | refine Ext.trans ?_ (by assumption)))) hm'.out).mono ?_); rintro e w1 ⟨rfl, hq1⟩)))
        go_ret
        exact ⟨by rw [HE.out, HN.out]; rfl, by have := HX.out; exact (Ext.alloc (Ext.refl w) _).trans (by repeat (first | exact Ext.refl _ | assumption | refine Ext.alloc ?_ _ | refine Ext.drew ?_ | refine Ext.drewN ?_ _ | refine Ext.trans ?_ (by assumption)))⟩
    · obtain rfl : k = m := by omega
      have HN := Lib.hid (show chkGo s rows = 0 by rw [← HG.out, List.drop_of_length_le (Nat.le_of_eq HL.out)]; rfl)
      have hx := HX.out
      obtain ⟨hf1, hf2, hf3⟩ := hx.facts
      go_wp2_with fail
      go_ret
      exact ⟨by rw [HE.out, HN.out]; rfl, (Ext.alloc (Ext.refl w) _).trans hx⟩
theorem OwnI.ext {w w' : World} {B : Nat} {e : TypeId} {v : Value} {k : Nat} {L : List Int} (h : OwnI w B e v k L) (hb : Ext w w') : OwnI w' B e v k L := World.ownsRow.kept h (But.of_ext hb none) (by cases v.ownBlock <;> simp)
theorem cnt_take {s : Int} {l : List Ro} {k : Nat} (hk : k < l.length) : cntC s (l.take (k + 1)) = cntC s (l.take k) ++ [mkL (l.getD k ro0).cells] := by
  rw [takeRo hk]; simp [cntC]
set_option maxRecDepth 100000 in
set_option maxHeartbeats 2000000 in
theorem rcounted_any (s : Int) (A : Option Addr) (m c : Nat) (rows : List Ro) (w : World) (hr : Rws w (fun _ => True) A m rows) (h0 : chkC s rows = 0) :
    Calls Try.prog 26 #[.agg #[.int .i64 s, .slice A m c]] w fun e w' => ∃ A' n' c', e = .returned (.slice A' n' c') ∧ Ext w w' ∧ Ints w' A' n' (cntC s rows) ∧ ∀ b off, A' = some ⟨b, off, none⟩ → w.heap.size ≤ b := by
  have hml := hr.len
  have hmm := hr.1
  unfold maxLen at hmm
  have hm2 : (m : Int) ≤ 9223372036854775807 := by omega
  have HR := Lib.hid hr
  have HL := Lib.hid hml
  clear hr hml hmm
  have HM0 := Lib.hid (show m ≤ 100 by have := (chkC_ok h0).1; rw [HL.out] at this; exact this)
  have HC := Lib.hid (chkGo_ok (chkC_ok h0).2.2.2)
  clear h0
  go_enter Try.func26, Try.ntmps26
  go_wp2_with fail
  go_loopw [3, 4] (fun u i wr => ∃ (k : Nat), i = .int .i64 k ∧ k ≤ m ∧ Hid (OwnI wr (w.alloc (.cells #[.int .i64 s, .slice A m c] 24)).heap.size 3 u (k + 1) (cntC s (rows.take k))) ∧ Hid (Ext (w.alloc (.cells #[.int .i64 s, .slice A m c] 24)) wr)) (fun _ i _ => m - (intOf i).toNat)
  case atStart => exact ⟨0, rfl, Nat.zero_le _, Lib.hid (by have h9 := one_row (w.alloc (.cells #[.int .i64 s, .slice A m c] 24)) (w.alloc (.cells #[.int .i64 s, .slice A m c] 24)).heap.size 3 s (Nat.le_refl _); rw [World.size_alloc] at h9 ⊢; exact h9), Lib.hid (by repeat (first | exact Ext.refl _ | assumption | refine Ext.alloc ?_ _ | refine Ext.drew ?_ | refine Ext.drewN ?_ _ | refine Ext.trans ?_ (by assumption)))⟩
  case round =>
    obtain ⟨k, rfl, hk, HO, HX⟩ := hrel
    by_cases hlt : k < m
    · obtain ⟨b, off, A', m', c', rfl, hb0, -, d0, d1, hv, hm', hby, -⟩ := (HR.out.ext ((Ext.alloc (Ext.refl w) _).trans HX.out)).at_ hlt
      have q0 : (0 : Int) ≤ (k : Int) := by omega
      have q1 : (k : Int) < (m : Int) := by omega
      have HW := Lib.hid hv
      have hby := Lib.hid hby
      have hm' := Lib.hid hm'
      have hx := HX.out
      obtain ⟨hf1, hf2, hf3⟩ := hx.facts
      have HD := Lib.hid (dropRo (l := rows) (k := k) (by rw [HL.out]; exact hlt))
      clear hv
      generalize hrow : rows.getD k ro0 = row at *
      have HT := Lib.hid (cnt_take (s := s) (l := rows) (k := k) (by rw [HL.out]; exact hlt))
      have h4 := (HC.out k (by rw [HL.out]; exact hlt)).1
      rw [hrow] at h4
      have HROW := Lib.hid hrow
      have HA := Lib.hid h4
      have HM := Lib.hid (mkG_ok h4)
      clear h4 hrow
      go_wp2_with (first
        | (go_at_call 29; ((with_reducible refine (rmakes_any m' c' A' row.cells _ (HW.out.ext (by repeat (first | exact Ext.refl _ | assumption | refine Ext.alloc ?_ _ | refine Ext.drew ?_ | refine Ext.drewN ?_ _ | refine Ext.trans ?_ (by assumption)))) hm'.out).mono ?_); rintro e w2 ⟨rfl, hq2⟩; rw [HA.out, HM.out]; have hq9 := hx.trans hq2; have HO2 := Lib.hid (OwnI.ext HO.out hq2)))
        | (at_builtin; refine wpList_append_int (w := (w.alloc (.cells #[.int .i64 s, .slice (some ⟨b, off, none⟩) m c] 24))) 38 3 w2.heap.size (mkL row.cells) (by rfl) (by rfl) Try.underlying38 info_int (by rfl) (by rfl) (OwnI.alloc HO2.out _) (hq9.alloc _) (by simp [go_sem]) (by have := HM0.out; omega) ?_; intro v' w3 hown3 hext3))
      go_roundw
      case rel => exact ⟨k + 1, by go_num, by omega, Lib.hid (by rw [HT.out, HROW.out]; exact hown3), hext3⟩
      case measure => simp [intOf]; omega
    · obtain rfl : k = m := by omega
      have hx := HX.out
      obtain ⟨hf1, hf2, hf3⟩ := hx.facts
      have HO2 := HO.out
      rw [List.take_of_length_le (Nat.le_of_eq HL.out)] at HO2
      obtain ⟨A2, c2, rfl, hi2⟩ := own_ints HO2
      have HI2 := Lib.hid hi2
      have HF2 := Lib.hid (show ∀ b off, A2 = some ⟨b, off, none⟩ → w.heap.size ≤ b from fun b off e => by subst e; have h5 := (own_blk HO2 b (by simp [Value.ownBlock])).1; simp at h5; omega)
      clear HO2 hi2
      go_wp2_with fail
      go_ret
      exact ⟨_, _, _, rfl, (Ext.alloc (Ext.refl w) _).trans hx, HI2.out, HF2.out⟩
end Go.Proofs.Ytjjhoonkooihjaa
