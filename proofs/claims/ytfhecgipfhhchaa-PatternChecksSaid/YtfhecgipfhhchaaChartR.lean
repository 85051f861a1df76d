/- The contracts of the reference's Check, Counts, Great and SameInts of charts. -/
import Derived.Test.YtfhecgipfhhchaaChartK
import Derived.Test.YtfhecgipfhhchaaStitchR
namespace Go.Proofs.Ytfhecgipfhhchaa
set_option maxRecDepth 100000
open Go.RowKit Go.ChangeShapes Go.WideShapes Go.Joins
set_option maxHeartbeats 2000000 in
theorem rccheck_any (s : Int) (A : Option Addr) (m c : Nat) (rows : List Ro) (w : World) (hr : Rws w (fun _ => True) A m rows) :
    Calls Try.prog 25 #[.agg #[.int .i64 s, .slice A m c]] w fun e w' => e = .returned (.int .i64 (chkC s rows)) ∧ Ext w w' := by
  have hml := hr.len
  have hmm := hr.1
  unfold maxLen at hmm
  have hm2 : (m : Int) ≤ 9223372036854775807 := by omega
  have HR := Lib.hid hr
  have HL := Lib.hid hml
  clear hr hml hmm
  by_cases h1 : 100 < m
  · have HE := Lib.hid (show chkC s rows = 4 by rw [chkC, if_pos (by rw [HL.out]; exact h1)])
    go_enter Try.func25, Try.ntmps25
    go_wp2_with fail
    go_ret
    exact ⟨by rw [HE.out]; rfl, by repeat (first | exact Ext.refl _ | assumption | refine Ext.alloc ?_ _ | refine Ext.drew ?_ | refine Ext.drewN ?_ _ | refine Ext.trans ?_ (by assumption))⟩
  have hm3 : decide ((100 : Int) < (m : Int)) = false := by simp; omega
  by_cases h2 : s < 0
  · have HE := Lib.hid (show chkC s rows = 8 by rw [chkC, if_neg (by rw [HL.out]; exact h1), if_pos (.inl h2)])
    go_enter Try.func25, Try.ntmps25
    go_wp2_with fail
    go_ret
    exact ⟨by rw [HE.out]; rfl, by repeat (first | exact Ext.refl _ | assumption | refine Ext.alloc ?_ _ | refine Ext.drew ?_ | refine Ext.drewN ?_ _ | refine Ext.trans ?_ (by assumption))⟩
  have hs2 : decide (s < 0) = false := by simp; omega
  by_cases h3 : 200 < s
  · have HE := Lib.hid (show chkC s rows = 8 by rw [chkC, if_neg (by rw [HL.out]; exact h1), if_pos (.inr h3)])
    go_enter Try.func25, Try.ntmps25
    go_wp2_with fail
    go_ret
    exact ⟨by rw [HE.out]; rfl, by repeat (first | exact Ext.refl _ | assumption | refine Ext.alloc ?_ _ | refine Ext.drew ?_ | refine Ext.drewN ?_ _ | refine Ext.trans ?_ (by assumption))⟩
  have hs3 : decide (200 < s) = false := by simp; omega
  have HE := Lib.hid (show chkC s rows = chkGo s rows by rw [chkC, if_neg (by rw [HL.out]; exact h1), if_neg (by omega)])
  go_enter Try.func25, Try.ntmps25
  go_wp2_with fail
  go_loopw [3, 4] (fun u i wr => ∃ (k : Nat) (q : Int), i = .int .i64 k ∧ u = .int .i64 q ∧ k ≤ m ∧ Hid (chkGo q (rows.drop k) = chkGo s rows) ∧ Hid (Ext (w.alloc (.cells #[.int .i64 s, .slice A m c] 31)) wr)) (fun _ i _ => m - (intOf i).toNat)
  case atStart => exact ⟨0, s, rfl, rfl, Nat.zero_le _, Lib.hid (by simp), Lib.hid (by repeat (first | exact Ext.refl _ | assumption | refine Ext.alloc ?_ _ | refine Ext.drew ?_ | refine Ext.drewN ?_ _ | refine Ext.trans ?_ (by assumption)))⟩
  case round =>
    obtain ⟨k, q, rfl, rfl, hk, HG, HX⟩ := hrel
    by_cases hlt : k < m
    · obtain ⟨b, off, A', m', c', rfl, hb0, -, d0, d1, hv, hm', hby, -⟩ := (HR.out.ext ((Ext.alloc (Ext.refl w) _).trans HX.out)).at_ hlt
      have q0 : (0 : Int) ≤ (k : Int) := by omega
      have q1 : (k : Int) < (m : Int) := by omega
      have HW := Lib.hid hv
      have hby := Lib.hid hby
      have hm' := Lib.hid hm'
      have hx := HX.out
      obtain ⟨hf1, hf2, hf3⟩ := hx.facts
      have HD := Lib.hid (dropRo (l := rows) (k := k) (by rw [HL.out]; exact hlt))
      clear hv
      generalize hrow : rows.getD k ro0 = row at *
      clear hrow
      by_cases h4 : allE row.cells = 0
      · by_cases h5 : usL row.cells = q
        · have HA := Lib.hid h4
          have HU := Lib.hid (show usG row.cells = q by rw [usG_ok h4]; exact h5)
          have HM := Lib.hid (mkG_ok h4)
          have HN := Lib.hid (show chkGo (mkL row.cells) (rows.drop (k + 1)) = chkGo s rows by rw [← HG.out, HD.out, chkGo, if_neg (by simp [h4]), if_neg (by simp [h5])])
          clear h4 h5
          go_wp2_with (first
            | (go_at_call 33; ((with_reducible refine (ruses_any m' c' A' row.cells _ (HW.out.ext (by repeat (first | exact Ext.refl _ | assumption | refine Ext.alloc ?_ _ | refine Ext.drew ?_ | refine Ext.drewN ?_ _ | refine Ext.trans ?_ (by assumption)))) hm'.out).mono ?_); rintro e w1 ⟨rfl, hq1⟩; rw [HA.out, HU.out]; obtain ⟨hg1, hg2, hg3⟩ := (Ext.trans hx hq1).facts; obtain ⟨hh1, hh2, hh3⟩ := hq1.facts))
            | (go_at_call 34; ((with_reducible refine (rmakes_any m' c' A' row.cells _ (HW.out.ext (by repeat (first | exact Ext.refl _ | assumption | refine Ext.alloc ?_ _ | refine Ext.drew ?_ | refine Ext.drewN ?_ _ | refine Ext.trans ?_ (by assumption)))) hm'.out).mono ?_); rintro e w2 ⟨rfl, hq2⟩; rw [HA.out, HM.out])))
          go_roundw
          case rel => exact ⟨k + 1, mkL row.cells, by go_num, rfl, by omega, HN, Lib.hid (by repeat (first | exact Ext.refl _ | assumption | refine Ext.alloc ?_ _ | refine Ext.drew ?_ | refine Ext.drewN ?_ _ | refine Ext.trans ?_ (by assumption)))⟩
          case measure => simp [intOf]; omega
        · have HA := Lib.hid h4
          have hb : (usG row.cells != q) = true := by rw [usG_ok h4]; simpa using h5
          have HN := Lib.hid (show chkGo s rows = 26 by rw [← HG.out, HD.out, chkGo, if_neg (by simp [h4]), if_pos h5])
          clear h4 h5
          go_wp2_with (first | (go_at_call 33; ((with_reducible refine (ruses_any m' c' A' row.cells _ (HW.out.ext (by repeat (first | exact Ext.refl _ | assumption | refine Ext.alloc ?_ _ | refine Ext.drew ?_ | refine Ext.drewN ?_ _ | refine Ext.trans ?_ (by assumption)))) hm'.out).mono ?_); rintro e w1 ⟨rfl, hq1⟩; rw [HA.out])))
          go_ret
          exact ⟨by rw [HE.out, HN.out]; rfl, by have := HX.out; exact (Ext.alloc (Ext.refl w) _).trans (by repeat (first | exact Ext.refl _ | assumption | refine Ext.alloc ?_ _ | refine Ext.drew ?_ | refine Ext.drewN ?_ _ | refine Ext.trans ?_ (by assumption)))⟩
      · have hb : (allE row.cells != 0) = true := by simpa using h4
        have HN := Lib.hid (show chkGo s rows = allE row.cells by rw [← HG.out, HD.out, chkGo, if_pos h4])
        clear h4
        go_wp2_with (first | (go_at_call 33; ((with_reducible refine (ruses_any m' c' A' row.cells _ (HW.out.ext (by repeat (first | exact Ext.refl _ | assumption | refine Ext.alloc ?_ _ | refine Ext.drew ?_ | refine Ext.drewN ?_ _ | refine Ext.trans ?_ (by assumption)))) hm'.out).mono ?_); rintro e w1 ⟨rfl, hq1⟩)))
        go_ret
        exact ⟨by rw [HE.out, HN.out]; rfl, by have := HX.out; exact (Ext.alloc (Ext.refl w) _).trans (by repeat (first | exact Ext.refl _ | assumption | refine Ext.alloc ?_ _ | refine Ext.drew ?_ | refine Ext.drewN ?_ _ | refine Ext.trans ?_ (by assumption)))⟩
    · obtain rfl : k = m := by omega
      have HN := Lib.hid (show chkGo s rows = 0 by rw [← HG.out, List.drop_of_length_le (Nat.le_of_eq HL.out)]; rfl)
      have hx := HX.out
      obtain ⟨hf1, hf2, hf3⟩ := hx.facts
      go_wp2_with fail
      go_ret
      exact ⟨by rw [HE.out, HN.out]; rfl, (Ext.alloc (Ext.refl w) _).trans hx⟩
theorem OwnI.ext {w w' : World} {B : Nat} {e : TypeId} {v : Value} {k : Nat} {L : List Int} (h : OwnI w B e v k L) (hb : Ext w w') : OwnI w' B e v k L := World.ownsRow.kept h (But.of_ext hb none) (by cases v.ownBlock <;> simp)
theorem cnt_take {s : Int} {l : List Ro} {k : Nat} (hk : k < l.length) : cntC s (l.take (k + 1)) = cntC s (l.take k) ++ [mkL (l.getD k ro0).cells] := by
  rw [takeRo hk]; simp [cntC]
end Go.Proofs.Ytfhecgipfhhchaa
