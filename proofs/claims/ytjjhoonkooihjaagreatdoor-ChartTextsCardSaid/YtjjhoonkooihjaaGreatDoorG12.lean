/- The contracts of the reference's Check, Counts, Great and SameInts of charts. -/
import Derived.Test.YtjjhoonkooihjaaGreatDoorG10
import Derived.Test.YtjjhoonkooihjaaGreatDoorG11
import Derived.Test.YtjjhoonkooihjaaGreatDoorG09
namespace Go.Proofs.YtjjhoonkooihjaaGreatDoor
set_option maxRecDepth 100000
open Go.RowKit Go.ChangeShapes Go.WideShapes Go.Joins
set_option maxHeartbeats 2000000 in
theorem rccheck_any (s : Int) (A : Option Addr) (m c : Nat) (rows : List Ro) (w : World) (hr : Rws w (fun _ => True) A m rows) :
    Calls Tryz.prog 16 #[.agg #[.int .i64 s, .slice A m c]] w fun e w' => e = .returned (.int .i64 (chkC s rows)) ∧ Ext w w' := by
  have hml := hr.len
  have hmm := hr.1
  unfold maxLen at hmm
  have hm2 : (m : Int) ≤ 9223372036854775807 := by omega
  have HR := Lib.hid hr
  have HL := Lib.hid hml
  clear hr hml hmm
  by_cases h1 : 100 < m
  · have HE := Lib.hid (show chkC s rows = 4 by rw [chkC, if_pos (by rw [HL.out]; exact h1)])
    go_enter Tryz.func16, Tryz.ntmps16
    go_wp2_with fail
    go_ret
    exact ⟨by rw [HE.out]; rfl, by repeat (first | exact Ext.refl _ | assumption | refine Ext.alloc ?_ _ | refine Ext.drew ?_ | refine Ext.drewN ?_ _ | refine Ext.trans ?_ (by assumption))⟩
  have hm3 : decide ((100 : Int) < (m : Int)) = false := by simp; omega
  by_cases h2 : s < 0
  · have HE := Lib.hid (show chkC s rows = 8 by rw [chkC, if_neg (by rw [HL.out]; exact h1), if_pos (.inl h2)])
    go_enter Tryz.func16, Tryz.ntmps16
    go_wp2_with fail
    go_ret
    exact ⟨by rw [HE.out]; rfl, by repeat (first | exact Ext.refl _ | assumption | refine Ext.alloc ?_ _ | refine Ext.drew ?_ | refine Ext.drewN ?_ _ | refine Ext.trans ?_ (by assumption))⟩
  have hs2 : decide (s < 0) = false := by simp; omega
  by_cases h3 : 200 < s
  · have HE := Lib.hid (show chkC s rows = 8 by rw [chkC, if_neg (by rw [HL.out]; exact h1), if_pos (.inr h3)])
    go_enter Tryz.func16, Tryz.ntmps16
    go_wp2_with fail
    go_ret
    exact ⟨by rw [HE.out]; rfl, by repeat (first | exact Ext.refl _ | assumption | refine Ext.alloc ?_ _ | refine Ext.drew ?_ | refine Ext.drewN ?_ _ | refine Ext.trans ?_ (by assumption))⟩
  have hs3 : decide (200 < s) = false := by simp; omega
  have HE := Lib.hid (show chkC s rows = chkGo s rows by rw [chkC, if_neg (by rw [HL.out]; exact h1), if_neg (by omega)])
  go_enter Tryz.func16, Tryz.ntmps16
  go_wp2_with fail
  go_loopw [3, 4] (fun u i wr => ∃ (k : Nat) (q : Int), i = .int .i64 k ∧ u = .int .i64 q ∧ k ≤ m ∧ Hid (chkGo q (rows.drop k) = chkGo s rows) ∧ Hid (Ext (w.alloc (.cells #[.int .i64 s, .slice A m c] 24)) wr)) (fun _ i _ => m - (intOf i).toNat)
  case atStart => exact ⟨0, s, rfl, rfl, Nat.zero_le _, Lib.hid (by simp), Lib.hid (by repeat (first | exact Ext.refl _ | assumption | refine Ext.alloc ?_ _ | refine Ext.drew ?_ | refine Ext.drewN ?_ _ | refine Ext.trans ?_ (by assumption)))⟩
  case round =>
    obtain ⟨k, q, rfl, rfl, hk, HG, HX⟩ := hrel
    by_cases hlt : k < m
    · obtain ⟨b, off, A', m', c', rfl, hb0, -, d0, d1, hv, hm', hby, -⟩ := (HR.out.ext ((Ext.alloc (Ext.refl w) _).trans HX.out)).at_ hlt
      have q0 : (0 : Int) ≤ (k : Int) := by omega
      have q1 : (k : Int) < (m : Int) := by omega
      have HW := Lib.hid hv
      have hby := Lib.hid hby
      have hm' := Lib.hid hm'
      have hx := HX.out
      obtain ⟨hf1, hf2, hf3⟩ := hx.facts
      have HD := Lib.hid (dropRo (l := rows) (k := k) (by rw [HL.out]; exact hlt))
      clear hv
      generalize hrow : rows.getD k ro0 = row at *
      clear hrow
      by_cases h4 : allE row.cells = 0
      · by_cases h5 : usL row.cells = q
        · have HA := Lib.hid h4
          have HU := Lib.hid (show usG row.cells = q by rw [usG_ok h4]; exact h5)
          have HM := Lib.hid (mkG_ok h4)
          have HN := Lib.hid (show chkGo (mkL row.cells) (rows.drop (k + 1)) = chkGo s rows by rw [← HG.out, HD.out, chkGo, if_neg (by simp [h4]), if_neg (by simp [h5])])
          clear h4 h5
          go_wp2_with (first
            | (go_at_call 43; ((with_reducible refine (ruses_any m' c' A' row.cells _ (HW.out.ext (by repeat (first | exact Ext.refl _ | assumption | refine Ext.alloc ?_ _ | refine Ext.drew ?_ | refine Ext.drewN ?_ _ | refine Ext.trans ?_ (by assumption)))) hm'.out).mono ?_); rintro e w1 ⟨rfl, hq1⟩; rw [HA.out, HU.out]; obtain ⟨hg1, hg2, hg3⟩ := (Ext.trans hx hq1).facts; obtain ⟨hh1, hh2, hh3⟩ := hq1.facts))
            | (go_at_call 44; ((with_reducible refine (rmakes_any m' c' A' row.cells _ (HW.out.ext (by repeat (first | exact Ext.refl _ | assumption | refine Ext.alloc ?_ _ | refine Ext.drew ?_ | refine Ext.drewN ?_ _ | refine Ext.trans ?_ (by assumption)))) hm'.out).mono ?_); rintro e w2 ⟨rfl, hq2⟩; rw [HA.out, HM.out])))
          go_roundw
          case rel => exact ⟨k + 1, mkL row.cells, by go_num, rfl, by omega, HN, Lib.hid (by repeat (first | exact Ext.refl _ | assumption | refine Ext.alloc ?_ _ | refine Ext.drew ?_ | refine Ext.drewN ?_ _ | refine Ext.trans ?_ (by assumption)))⟩
          case measure => simp [intOf]; omega
        · have HA := Lib.hid h4
          have hb : (usG row.cells != q) = true := by rw [usG_ok h4]; simpa using h5
          have HN := Lib.hid (show chkGo s rows = 26 by rw [← HG.out, HD.out, chkGo, if_neg (by simp [h4]), if_pos h5])
          clear h4 h5
          go_wp2_with (first | (go_at_call 43; ((with_reducible refine (ruses_any m' c' A' row.cells _ (HW.out.ext (by repeat (first | exact Ext.refl _ | assumption | refine Ext.alloc ?_ _ | refine Ext.drew ?_ | refine Ext.drewN ?_ _ | refine Ext.trans ?_ (by assumption)))) hm'.out).mono ?_); rintro e w1 ⟨rfl, hq1⟩; rw [HA.out])))
          go_ret
          exact ⟨by rw [HE.out, HN.out]; rfl, by have := HX.out; exact (Ext.alloc (Ext.refl w) _).trans (by repeat (first | exact Ext.refl _ | assumption | refine Ext.alloc ?_ _ | refine Ext.drew ?_ | refine Ext.drewN ?_ _ | refine Ext.trans ?_ (by assumption)))⟩
      · have hb : (allE row.cells != 0) = true := by simpa using h4
        have HN := Lib.hid (show chkGo s rows = allE row.cells by rw [← HG.out, HD.out, chkGo, if_pos h4])
        clear h4
        go_wp2_with (first | (go_at_call 43; ((with_reducible refine (ruses_any m' c' A' row.cells _ (HW.out.ext (by repeat (first | exact Ext.refl _ | assumption | refine Ext.alloc ?_ _ | refine Ext.drew ?_ | refine Ext.drewN ?_ _ | refine Ext.trans ?_ (by assumption)))) hm'.out).mono ?_); rintro e w1 ⟨rfl, hq1⟩)))
        go_ret
        exact ⟨by rw [HE.out, HN.out]; rfl, by have := HX.out; exact (Ext.alloc (Ext.refl w) _).trans (by repeat (first | exact Ext.refl _ | assumption | refine Ext.alloc ?_ _ | refine Ext.drew ?_ | refine Ext.drewN ?_ _ | refine Ext.trans ?_ (by assumption)))⟩
    · obtain rfl : k = m := by omega
      have HN := Lib.hid (show chkGo s rows = 0 by rw [← HG.out, List.drop_of_length_le (Nat.le_of_eq HL.out)]; rfl)
      have hx := HX.out
      obtain ⟨hf1, hf2, hf3⟩ := hx.facts
      go_wp2_with fail
      go_ret
      exact ⟨by rw [HE.out, HN.out]; rfl, (Ext.alloc (Ext.refl w) _).trans hx⟩
theorem OwnI.ext {w w' : World} {B : Nat} {e : TypeId} {v : Value} {k : Nat} {L : List Int} (h : OwnI w B e v k L) (hb : Ext w w') : OwnI w' B e v k L := World.ownsRow.kept h (But.of_ext hb none) (by cases v.ownBlock <;> simp)
theorem cnt_take {s : Int} {l : List Ro} {k : Nat} (hk : k < l.length) : cntC s (l.take (k + 1)) = cntC s (l.take k) ++ [mkL (l.getD k ro0).cells] := by
  rw [takeRo hk]; simp [cntC]
end Go.Proofs.YtjjhoonkooihjaaGreatDoor
/- The contracts of the reference's Counts, Great, SameInts, Same, and of Same of charts. -/
namespace Go.Proofs.YtjjhoonkooihjaaGreatDoor
set_option maxRecDepth 100000
open Go.RowKit Go.ChangeShapes Go.WideShapes Go.Joins
theorem great_hit {l : List Ro} {k : Nat} (hk : k < l.length) (h1 : k < 150) (h : greatN (l.getD k ro0).cells.length = true) : greatC l = true := by
  have : (l.take 150).any (fun r => greatN r.cells.length) = true := by
    rw [List.any_eq_true]
    refine ⟨l.getD k ro0, ?_, h⟩
    rw [List.getD_eq_getElem?_getD, List.getElem?_eq_getElem hk]
    exact List.mem_take_iff_getElem.2 ⟨k, by omega, rfl⟩
  rw [greatC, this]; rfl
theorem great_miss {l : List Ro} (h : ∀ k, k < l.length → k < 150 → greatN (l.getD k ro0).cells.length = false) : greatC l = ((decide (12 < l.length) && decide (l.length ≤ 100)) || decide (150 < l.length)) := by
  have : (l.take 150).any (fun r => greatN r.cells.length) = false := by
    rw [List.any_eq_false]
    intro x hx
    obtain ⟨k, hk, rfl⟩ := List.mem_take_iff_getElem.1 hx
    have := h k (by omega) (by omega)
    rw [List.getD_eq_getElem?_getD, List.getElem?_eq_getElem (by omega)] at this
    simpa using this
  rw [greatC, this]; simp
set_option maxRecDepth 100000 in
set_option maxHeartbeats 4000000 in
theorem cgreat_any (s : Int) (A : Option Addr) (m c : Nat) (rows : List Ro) (w : World) (hr : Rws w (fun _ => True) A m rows) :
    Calls Tryz.prog 9 #[.agg #[.int .i64 s, .slice A m c]] w fun e w' => e = .returned (.bool (greatC rows)) ∧ Ext w w' := by
  have hml := hr.len
  have hmm := hr.1
  unfold maxLen at hmm
  have hm2 : (m : Int) ≤ 9223372036854775807 := by omega
  have HR := Lib.hid hr
  have HL := Lib.hid hml
  clear hr hml hmm
  go_enter Tryz.func9, Tryz.ntmps9
  go_wp2_with fail
  go_loopw [3] (fun i wr => ∃ (k : Nat), i = .int .i64 k ∧ k ≤ m ∧ Hid (∀ j, j < k → greatN (rows.getD j ro0).cells.length = false) ∧ Hid (Ext (w.alloc (.cells #[.int .i64 s, .slice A m c] 24)) wr)) (fun i _ => m - (intOf i).toNat)
  case atStart => exact ⟨0, rfl, Nat.zero_le _, Lib.hid (fun j hj => absurd hj (by omega)), Lib.hid (by repeat (first | exact Ext.refl _ | assumption | refine Ext.alloc ?_ _ | refine Ext.drew ?_ | refine Ext.drewN ?_ _ | refine Ext.trans ?_ (by assumption)))⟩
  case round =>
    obtain ⟨k, rfl, hk, HG, HX⟩ := hrel
    by_cases hlt : k < m
    · by_cases h150 : k < 150
      · obtain ⟨b, off, A', m', c', rfl, hb0, -, d0, d1, hv, hm', hby, -⟩ := (HR.out.ext ((Ext.alloc (Ext.refl w) _).trans HX.out)).at_ hlt
        have q0 : (0 : Int) ≤ (k : Int) := by omega
        have q1 : (k : Int) < (m : Int) := by omega
        have HW := Lib.hid hv
        have hby := Lib.hid hby
        have hm' := Lib.hid hm'
        have hx := HX.out
        obtain ⟨hf1, hf2, hf3⟩ := hx.facts
        have HD := Lib.hid (dropRo (l := rows) (k := k) (by rw [HL.out]; exact hlt))
        clear hv
        generalize hrow : rows.getD k ro0 = row at *
        have HROW := Lib.hid hrow
        have hcl := HW.out.1
        clear hrow
        cases hg : greatN row.cells.length
        · have HGR := Lib.hid (show greatN m' = false by rw [← hcl]; exact hg)
          have HN := Lib.hid (show ∀ j, j < k + 1 → greatN (rows.getD j ro0).cells.length = false from fun j hj => by
            rcases Nat.lt_or_ge j k with h | h
            · exact HG.out j h
            · obtain rfl : j = k := by omega
              rw [HROW.out]; exact hg)
          clear hg hcl
          go_wp2_with (first | (go_at_call 28; ((with_reducible refine (great_any m' c' A' _ hm'.out).mono ?_); rintro e w1 ⟨rfl, hq1⟩; rw [HGR.out])))
          go_roundw
          case rel => exact ⟨k + 1, by go_num, by omega, HN, Lib.hid (by repeat (first | exact Ext.refl _ | assumption | refine Ext.alloc ?_ _ | refine Ext.drew ?_ | refine Ext.drewN ?_ _ | refine Ext.trans ?_ (by assumption)))⟩
          case measure => simp [intOf]; omega
        · have HGR := Lib.hid (show greatN m' = true by rw [← hcl]; exact hg)
          have HN := Lib.hid (great_hit (l := rows) (k := k) (by rw [HL.out]; exact hlt) h150 (by rw [HROW.out]; exact hg))
          clear hg hcl
          go_wp2_with (first | (go_at_call 28; ((with_reducible refine (great_any m' c' A' _ hm'.out).mono ?_); rintro e w1 ⟨rfl, hq1⟩; rw [HGR.out])))
          go_ret
          exact ⟨by rw [HN.out]; rfl, (Ext.alloc (Ext.refl w) _).trans (by repeat (first | exact Ext.refl _ | assumption | refine Ext.alloc ?_ _ | refine Ext.drew ?_ | refine Ext.drewN ?_ _ | refine Ext.trans ?_ (by assumption)))⟩
      · have h150b : decide ((k : Int) < 150) = false := by simp; omega
        have HN := Lib.hid (show greatC rows = true by
          have : decide (150 < rows.length) = true := by simp; rw [HL.out]; omega
          rw [great_miss (fun j hj h1 => HG.out j (by omega)), this]; simp)
        have hx := HX.out
        obtain ⟨hf1, hf2, hf3⟩ := hx.facts
        by_cases hm1 : 150 < m
        · go_wp2_with fail
          go_ret
          exact ⟨by rw [HN.out]; simp; omega, (Ext.alloc (Ext.refl w) _).trans hx⟩
        · exact absurd (show 150 < m by omega) hm1
    · obtain rfl : k = m := by omega
      have hx := HX.out
      obtain ⟨hf1, hf2, hf3⟩ := hx.facts
      have HN := Lib.hid (great_miss (l := rows) (fun j hj _ => HG.out j (by rw [HL.out] at hj; exact hj)))
      by_cases h12 : 12 < k
      · by_cases h100 : k ≤ 100
        · have HV := Lib.hid (show greatC rows = true by rw [HN.out, HL.out, decide_eq_true h12, decide_eq_true h100]; rfl)
          go_wp2_with fail
          go_ret
          exact ⟨by rw [HV.out]; rfl, (Ext.alloc (Ext.refl w) _).trans hx⟩
        · have hd : decide ((k : Int) ≤ 100) = false := by simp; omega
          by_cases h150 : 150 < k
          · have HV := Lib.hid (show greatC rows = true by rw [HN.out, HL.out, decide_eq_true h150]; simp)
            go_wp2_with fail
            go_ret
            exact ⟨by rw [HV.out]; first | rfl | (simp; omega), (Ext.alloc (Ext.refl w) _).trans hx⟩
          · have HV := Lib.hid (show greatC rows = false by rw [HN.out, HL.out, decide_eq_false h150, decide_eq_false h100]; simp)
            have hd2 : decide ((150 : Int) < (k : Int)) = false := by simp; omega
            go_wp2_with fail
            go_ret
            exact ⟨by rw [HV.out]; rfl, (Ext.alloc (Ext.refl w) _).trans hx⟩
      · have hd : decide ((12 : Int) < (k : Int)) = false := by simp; omega
        have hd2 : decide ((150 : Int) < (k : Int)) = false := by simp; omega
        have HV := Lib.hid (show greatC rows = false by rw [HN.out, HL.out, decide_eq_false h12, decide_eq_false (show ¬ 150 < k by omega)]; simp)
        go_wp2_with fail
        go_ret
        exact ⟨by rw [HV.out]; rfl, (Ext.alloc (Ext.refl w) _).trans hx⟩
set_option maxHeartbeats 1000000 in
theorem sameints_any (n m c d : Nat) (A B : Option Addr) (xs : List Int) (w : World) (hx : Ints w A n xs) (hy : Ints w B m xs) (hn : n ≤ maxLen) :
    Calls Tryz.prog 22 #[.slice A n c, .slice B m d] w fun e w' => e = .returned (.bool true) ∧ Ext w w' := by
  obtain rfl : n = m := hx.1.symm.trans hy.1
  have HX := Lib.hid hx
  have HY := Lib.hid hy
  unfold maxLen at hn
  have hn2 : (n : Int) ≤ 9223372036854775807 := by omega
  clear hx hy hn
  go_enter Tryz.func22, Tryz.ntmps22
  go_wp2_with fail
  go_loopw [5] (fun i wr => ∃ k : Nat, k ≤ n ∧ i = .int .i64 k ∧ Hid (Ext w wr)) (fun i _ => n - (intOf i).toNat)
  case atStart => exact ⟨0, by omega, rfl, Ext.refl _⟩
  case round =>
    obtain ⟨k, hk, rfl, hext⟩ := hrel
    have := hext.out
    by_cases hlt : k < n
    · obtain ⟨b, off, rfl, hb, hc⟩ := (HX.out.ext hext.out).2 (by omega)
      obtain ⟨b', off', rfl, hb', hc'⟩ := (HY.out.ext hext.out).2 (by omega)
      have h1 := hc k hlt
      have h2 := hc' k hlt
      clear hc hc'
      have q0 : (0 : Int) ≤ (k : Int) := by omega
      have q1 : (k : Int) < (n : Int) := by omega
      generalize xs.getD k 0 = x at *
      go_wp2_with fail
      go_quiet (fail)
      go_wp2
      go_roundw
      case rel => exact ⟨k + 1, by omega, by go_num, by repeat (first | exact Ext.refl _ | assumption | refine Ext.alloc ?_ _ | refine Ext.drew ?_ | refine Ext.drewN ?_ _ | refine Ext.trans ?_ (by assumption))⟩
      case measure => simp [intOf]; omega
    · obtain rfl : k = n := by omega
      go_wp2
      go_ret
      exact ⟨rfl, hext.out⟩
end Go.Proofs.YtjjhoonkooihjaaGreatDoor
/- The contracts of twin of rows, both. -/
namespace Go.Proofs.YtjjhoonkooihjaaGreatDoor
set_option maxRecDepth 100000
open Go.RowKit Go.ChangeShapes Go.WideShapes Go.Joins
/-- a call has returned these rows, made by itself -/
def RowsR (l : List Ro) (w : World) (e : Ending) (w' : World) : Prop := ∃ v, e = .returned v ∧ Ext w w' ∧ OwnR w' w.heap.size 46 v l.length l
theorem raw_set : ∀ (xs : List Raw) (k : Nat) (A : Option Addr) (n c : Nat), k < xs.length → (xs.flatMap shRaw.cells).set (k * 2 + 1) (.slice A n c) = (xs.set k ⟨(xs.getD k raw0).b, A, n, c⟩).flatMap shRaw.cells := by
  intro xs
  induction xs with
  | nil => intro k A n c h; simp at h
  | cons x xs ih =>
    intro k A n c h
    cases k with
    | zero => rfl
    | succ k =>
      have := ih k A n c (by simpa using h)
      have e : (k + 1) * 2 + 1 = (k * 2 + 1) + 1 + 1 := by omega
      rw [List.flatMap_cons, e, List.set_cons_succ, List.flatMap_cons]
      show Value.bool x.b :: Value.slice x.A x.n x.c :: ((xs.flatMap shRaw.cells).set (k * 2 + 1) (.slice A n c)) = _
      rw [this]
      rfl
theorem set_getD {xs : List Raw} {k j : Nat} (x : Raw) (hk : k < xs.length) : (xs.set k x).getD j raw0 = if j = k then x else xs.getD j raw0 := by
  rw [List.getD_eq_getElem?_getD, List.getElem?_set]
  by_cases h : k = j
  · subst h
    rw [if_pos rfl, if_pos hk, if_pos rfl]; rfl
  · rw [if_neg h, if_neg (fun e => h e.symm), ← List.getD_eq_getElem?_getD]
theorem size_row : (Tryz.prog.info? 46).map (·.size) = some 2 := by kernel_rfl
theorem size_st : (Tryz.prog.info? 54).map (·.size) = some 4 := by kernel_rfl
theorem OwnV.but {α : Type} {S : Shp α} {w w' : World} {B : Nat} {e : TypeId} {v : Value} {k : Nat} {L : List α} {E : Option Nat} (h : OwnV S w B e v k L) (hb : But E w w') (hne : v.ownBlock = none ∨ v.ownBlock ≠ E) : OwnV S w' B e v k L := World.ownsRow.kept h hb hne
theorem raw_cell {w : World} {B g n c k : Nat} {e : TypeId} {xs : List Raw} (h : OwnV shRaw w B e (.slice (some ⟨g, 0, none⟩) n c) n xs) (hk : k < n) : ∃ u, w.cell? ⟨g, k * 2 + 1, none⟩ = some u := by
  have h1 := World.ownsRow.cellAt h (k * 2 + 1) (by show k * 2 + 1 < n * 2; omega)
  have h2 := flat_get (S := shRaw) xs k 1 (by show 1 < 2; omega)
  rw [show k * shRaw.size + 1 = k * 2 + 1 from rfl] at h2
  rw [h1, h2, getRaw (by rw [h.len]; exact hk)]
  exact ⟨_, rfl⟩
set_option maxRecDepth 100000 in
set_option maxHeartbeats 4000000 in
theorem ctwin_any (A : Option Addr) (n c : Nat) (l : List Ro) (w : World) (hr : Rws w (fun _ => True) A n l) (hn : n ≤ 1000) (hcl : ∀ k, k < n → (l.getD k ro0).cells.length ≤ 1000) :
    Calls Tryz.prog 49 #[.slice A n c] w (RowsR l w) := by
  have hl := hr.len
  obtain ⟨hmm, raws, hrv, -, hros⟩ := hr
  have HR := Lib.hid (show Rws w (fun _ => True) A n l from ⟨hmm, raws, hrv, fun _ _ _ _ => trivial, hros⟩)
  have HRV := Lib.hid hrv
  have HROS := Lib.hid hros
  have HL := Lib.hid hl
  have HCL := Lib.hid hcl
  have HRL := Lib.hid hrv.1
  have HSRC := Lib.hid (show 0 < n → ∃ ad, A = some ad ∧ ∀ j u, (raws.flatMap shRaw.cells)[j]? = some u → w.cell? (ad.add j) = some u from fun h => by
    obtain ⟨b, off, e, _, _⟩ := hrv.2 h
    subst e
    exact ⟨_, rfl, hrv.cells_at⟩)
  clear hl hmm hrv hros hcl
  go_enter Tryz.func49, Tryz.ntmps49
  go_wp2_with (first
    | (at_make; refine wpList_make_own 22 46 (.agg #[.bool false, .slice none 0 0]) 2 32 n w.heap.size (by rfl) (by rfl) Tryz.underlying22 info_row (by rfl) (by omega) (by omega) (Nat.le_refl _) ?_; intro w1 HO1 HE1 hlt1)
    | (refine wpList_copy_all (cs := raws.flatMap shRaw.cells) 46 2 22 22 (by rfl) (by rfl) Tryz.underlying22 size_row (by rfl) (by rfl) HO1.out (by rw [flat_len, HRL.out]; rfl) (fun h => by obtain ⟨ad, h1, h2⟩ := HSRC.out h; exact ⟨ad, h1, fun j u hu => by have h3 := h2 j u hu; exact (Below.cell HE1.out (World.block_lt_of_cell? w _ h3)).trans h3⟩) (fun u hu => by obtain ⟨y, _, hy⟩ := List.mem_flatMap.1 hu; exact shRaw.one y u hy) ?_; intro w2 HO2 HB2))
  have HE2 := Lib.hid (show Ext w w2 from But.below (But.trans (But.of_ext HE1.out _) HB2.out) (Nat.le_refl _) (fun k e => by cases e; exact Nat.le_refl _))
  have HO3 := Lib.hid (show OwnV shRaw w2 w.heap.size 46 (.slice (some ⟨w.heap.size, 0, none⟩) n n) n raws from HO2.out)
  have hlt2 : w.heap.size < w2.heap.size := Nat.lt_of_lt_of_le hlt1 HB2.out.size
  have HE0 := Lib.hid (Ext.refl w)
  clear hlt1
  go_loopw [14] (fun i wr => ∃ (k : Nat) (xs : List Raw), i = .int .i64 k ∧ k ≤ n ∧ xs.length = n ∧ Hid (OwnV shRaw wr w.heap.size 46 (.slice (some ⟨w.heap.size, 0, none⟩) n n) n xs ∧ (∀ j, j < k → RoAt wr (fun b => w.heap.size < b ∧ ∀ o, wr.frozen? ⟨b, o, none⟩ = false) (xs.getD j raw0) (l.getD j ro0)) ∧ (∀ j, k ≤ j → xs.getD j raw0 = raws.getD j raw0)) ∧ Hid (Ext w wr) ∧ w.heap.size < wr.heap.size) (fun i _ => n - (intOf i).toNat)
  case atStart => exact ⟨0, raws, rfl, Nat.zero_le _, HRL.out, Lib.hid ⟨HO3.out, fun j hj => absurd hj (by omega), fun j _ => rfl⟩, HE2, hlt2⟩
  case round =>
    obtain ⟨k, xs, rfl, hk, hxl, HX, HE, hltr⟩ := hrel
    have hx := HE.out
    by_cases hlt : k < n
    · obtain ⟨b, off, A', n', c', rfl, hb0, -, d0, d1, hv, hm', hby, -⟩ := (HR.out.ext hx).at_ hlt
      have hcn := HCL.out k hlt
      rw [hv.1] at hcn
      have q0 : (0 : Int) ≤ (k : Int) := by omega
      have q1 : (k : Int) < (n : Int) := by omega
      have HW := Lib.hid hv
      have HBY := Lib.hid hby
      have HM := Lib.hid hm'
      clear hv hby hm'
      generalize hrow : l.getD k ro0 = row at *
      have HROW := Lib.hid hrow
      clear hrow
      obtain ⟨rb, rc⟩ := row
      simp only at d0
      -- the cell of the row that is written
      have hxb : (xs.getD k raw0).b = rb := by
        have h1 := (HROS.out.2 k (by rw [HL.out]; exact hlt)).1
        rw [← HX.out.2.2 k (Nat.le_refl _), HROW.out] at h1
        exact h1
      have HXB := Lib.hid hxb
      clear hxb
      obtain ⟨wq, rfl⟩ : ∃ wq : World, wq = wr := ⟨_, rfl⟩
      have HOW := Lib.hid HX.out.1
      obtain ⟨u7, hc7⟩ := raw_cell HOW.out hlt
      have hf7 := World.ownsRow.frozenAt HOW.out (k * 2 + 1)
      go_wp2_with (first
        | (at_make; refine wpList_make_own 44 54 (.agg #[.int .u8 0, .bool false, .int .i64 0, .int .i64 0]) 4 24 n' w.heap.size (by rfl) (by rfl) Tryz.underlying44 info_st (by rfl) (by omega) (by omega) (by simp; omega) ?_; intro w3 HO4 HE4 hlt4; have hq9 := HE4.out.facts; obtain ⟨hf1, hf2, hf3⟩ := hq9; have HO5 := Lib.hid (OwnV.ext (OwnV.alloc HOW.out _) HE4.out)))
      -- the cells are copied
      have hex : Ext wq w3 := Ext.trans ((Ext.refl wq).alloc _) HE4.out
      have hz3 : wq.heap.size + 1 < w3.heap.size := by have := hlt4; simp at this; exact this
      have hc8 : w3.cell? ⟨w.heap.size, k * 2 + 1, none⟩ = some u7 := (Below.cell (p := ⟨w.heap.size, k * 2 + 1, none⟩) hex hltr).trans hc7
      have hc9 : w3.cell? ⟨wq.heap.size, 1, none⟩ = some (.slice A' n' c') := by rw [hf1 _ _ (by simp)]; simp [go_sem]
      have g1 := World.cell?_setCell_same w3 ⟨w.heap.size, k * 2 + 1, none⟩ (.slice (some ⟨wq.heap.size + 1, 0, none⟩) n' n') hc8
      have g2 := (World.cell?_setCell_other w3 ⟨w.heap.size, k * 2 + 1, none⟩ ⟨wq.heap.size, 1, none⟩ (.slice (some ⟨wq.heap.size + 1, 0, none⟩) n' n') (by intro e; have e2 := congrArg Addr.block e; simp at e2; omega)).trans hc9
      have hbw : But (some w.heap.size) wq (w3.setCell ⟨w.heap.size, k * 2 + 1, none⟩ (.slice (some ⟨wq.heap.size + 1, 0, none⟩) n' n')) := (But.of_ext hex _).own rfl _
      have hews : Ext w (w3.setCell ⟨w.heap.size, k * 2 + 1, none⟩ (.slice (some ⟨wq.heap.size + 1, 0, none⟩) n' n')) := Below.setCell (hx.trans hex) (by simp) _
      have ho4 := HO4.out
      rw [World.size_alloc] at ho4
      have ho6 := World.ownsRow.kept (w' := w3.setCell ⟨w.heap.size, k * 2 + 1, none⟩ (.slice (some ⟨wq.heap.size + 1, 0, none⟩) n' n')) (row := some w.heap.size) ho4 ((But.refl (some w.heap.size) w3).own rfl _) (by right; simp [Value.ownBlock]; omega)
      have ho5 := (World.ownsRow.stored (OwnV.ext (OwnV.alloc HOW.out _) HE4.out) (k * 2 + 1) (.slice (some ⟨wq.heap.size + 1, 0, none⟩) n' n')).1
      rw [raw_set xs k (some ⟨wq.heap.size + 1, 0, none⟩) n' n' (by omega)] at ho5
      have hsz5 : (w3.setCell ⟨w.heap.size, k * 2 + 1, none⟩ (.slice (some ⟨wq.heap.size + 1, 0, none⟩) n' n')).heap.size = w3.heap.size := by simp [World.setCell]
      obtain ⟨ws, hws⟩ : ∃ ws, w3.setCell ⟨w.heap.size, k * 2 + 1, none⟩ (.slice (some ⟨wq.heap.size + 1, 0, none⟩) n' n') = ws := ⟨_, rfl⟩
      rw [hws] at g1 g2 hbw hews ho6 ho5 hsz5 ⊢
      have hvs : Vec shSt ws A' n' rc := by
        obtain ⟨b8, off8, A8, n8, c8, e8, _, _, _, f8, v8, _⟩ := HR.out.at_ hlt
        cases e8
        have h9 := (Below.cell (p := ⟨b, off + k * 2 + 1, none⟩) hx (World.block_lt_of_cell? w _ f8)).trans f8
        rw [d1] at h9
        cases h9
        rw [HROW.out] at v8
        exact v8.ext hews
      have HVS := Lib.hid hvs
      have hlw1 : w.heap.size < ws.heap.size := by omega
      have hlw2 : wq.heap.size < ws.heap.size := by omega
      have hne1 : some w.heap.size ≠ some (wq.heap.size + 1) := by simp; omega
      have hne2 : some wq.heap.size ≠ some (wq.heap.size + 1) := by simp
      clear hws hf1 hf2 hf3 hc7 hf7 hc8 hc9
      have HO5 := Lib.hid ho5
      have HO6 := Lib.hid ho6
      have HBW := Lib.hid hbw
      have HEWS := Lib.hid hews
      clear ho5 ho6 hbw hews hex
      go_region_held3 (fun w' => w'.cell? ⟨w.heap.size, k * 2 + 1, none⟩ = some (.slice (some ⟨wq.heap.size + 1, 0, none⟩) n' n') ∧ w'.cell? ⟨wq.heap.size, 1, none⟩ = some (.slice A' n' c')) (go_keep)
        (first | (refine step_copy_all (cs := rc.flatMap stc) 54 4 44 44 (by rfl) (by rfl) Tryz.underlying44 size_st (by rfl) (by rfl) HO6.out (by rw [show (rc.flatMap stc).length = rc.length * 4 from flat_len (S := shSt) rc, HVS.out.1]) (fun h => by obtain ⟨b9, off9, e9, _, _⟩ := HVS.out.2 h; subst e9; exact ⟨_, rfl, HVS.out.cells_at⟩) (fun u hu => by obtain ⟨y, _, hy⟩ := List.mem_flatMap.1 hu; exact shSt.one y u hy) ?_; intro w5 HO7 HB7; have k1 := (But.cell HB7.out (p := ⟨w.heap.size, k * 2 + 1, none⟩) hlw1 hne1).trans g1; have k2 := (But.cell HB7.out (p := ⟨wq.heap.size, 1, none⟩) hlw2 hne2).trans g2))
      have HR5 := Lib.hid (show OwnV shRaw w5 w.heap.size 46 (.slice (some ⟨w.heap.size, 0, none⟩) n n) n (xs.set k ⟨(xs.getD k raw0).b, some ⟨wq.heap.size + 1, 0, none⟩, n', n'⟩) from
        OwnV.but (w := ws.drew) (OwnV.drew HO5.out) HB7.out (by right; simp [Value.ownBlock]; omega))
      have HE5 := Lib.hid (show Ext w w5 from But.below (But.trans (But.of_ext (Ext.drew HEWS.out) (some (wq.heap.size + 1))) HB7.out) (Nat.le_refl _) (fun k e => by cases e; omega))
      have HK5 := Lib.hid (show ∀ j, j < k + 1 → RoAt w5 (fun b => w.heap.size < b ∧ ∀ o, w5.frozen? ⟨b, o, none⟩ = false) ((xs.set k ⟨(xs.getD k raw0).b, some ⟨wq.heap.size + 1, 0, none⟩, n', n'⟩).getD j raw0) (l.getD j ro0) from fun j hj => by
        rw [set_getD _ (by omega)]
        by_cases hjk : j = k
        · subst hjk
          rw [if_pos rfl, HROW.out, HXB.out]
          refine ⟨rfl, Vec.of_own (show OwnV shSt w5 w.heap.size 54 (.slice (some ⟨wq.heap.size + 1, 0, none⟩) n' n') n' rc from HO7.out), HM.out, HBY.out, fun _ b9 off9 e9 => by cases e9; exact ⟨by omega, fun o => World.ownsRow.frozenAt (show OwnV shSt w5 w.heap.size 54 (.slice (some ⟨wq.heap.size + 1, 0, none⟩) n' n') n' rc from HO7.out) o⟩⟩
        · rw [if_neg hjk]
          refine (HX.out.2.1 j (by omega)).keep (by have := HB7.out.size; have h2 := HBW.out.size; exact Nat.le_trans h2 this) fun b9 hb9 ⟨hk8, hk9⟩ => ⟨⟨hk8, fun o => ((But.frozen HB7.out (p := ⟨b9, o, none⟩) (Nat.lt_of_lt_of_le hb9 HBW.out.size) (by simp; omega)).trans (But.frozen HBW.out (p := ⟨b9, o, none⟩) hb9 (by simp; omega))).trans (hk9 o)⟩, fun o => ?_⟩
          have e1 := But.cell HBW.out (p := ⟨b9, o, none⟩) hb9 (by simp; omega)
          have e2 := But.cell HB7.out (p := ⟨b9, o, none⟩) (Nat.lt_of_lt_of_le hb9 HBW.out.size) (by simp; omega)
          exact e2.trans e1)
      have hlt5 : w.heap.size < w5.heap.size := Nat.lt_of_lt_of_le hlw1 HB7.out.size
      clear k1 k2 g1 g2
      go_wp2
      go_roundw
      case rel =>
        refine ⟨k + 1, _, by go_num, by omega, by rw [List.length_set]; exact hxl, Lib.hid ⟨HR5.out, HK5.out, fun j hj => ?_⟩, HE5, hlt5⟩
        rw [set_getD _ (by omega), if_neg (by omega)]
        exact HX.out.2.2 j (by omega)
      case measure => simp [intOf]; omega
    · obtain rfl : k = n := by omega
      have HOK := Lib.hid (show OwnR wr w.heap.size 46 (.slice (some ⟨w.heap.size, 0, none⟩) k k) l.length l from by
        rw [HL.out]
        refine ⟨xs, HX.out.1, by rw [hxl, HL.out], fun j hj => (HX.out.2.1 j (by rw [HL.out] at hj; exact hj)).keep (Nat.le_refl _) fun b9 _ ⟨hk8, hk9⟩ => ⟨⟨by omega, by simp [Value.ownBlock]; omega, hk9⟩, fun _ => rfl⟩⟩)
      go_wp2
      go_ret
      exact ⟨_, rfl, hx, HOK.out⟩
end Go.Proofs.YtjjhoonkooihjaaGreatDoor
/- The contract of the reference's Twin of rows. -/
namespace Go.Proofs.YtjjhoonkooihjaaGreatDoor
set_option maxRecDepth 100000
open Go.RowKit Go.ChangeShapes Go.WideShapes Go.Joins
section
variable {α : Type} {S : Shp α} {P : Program} {ops : Array Oper} {rest : List Oper} {o : Oper} {a : Act} {K : Act → World → Prop} {Q : Exit → Act → World → Prop} {E : Prop} {w wx : World}
theorem step_append_vecsB (T e : TypeId) (z : Value) (bytes : Nat) {s x : Operand} {v : Value} {k m c : Nat} {A : Option Addr} {L xs : List α}
    (hgd : o.guard = none) (ho : o.op = .call { callee := .builtin .append, args := #[s, x], argTypes := #[T, T] })
    (ht : P.underlying T = some (.slice e)) (hinfo : (P.info? e).map (fun i => (i.zero, i.size, i.bytes)) = some (some z, S.size, bytes)) (hzs : z.cells.size = S.size) (hby : bytes ≤ 1000)
    (hs : a.eval s = v) (hx : a.eval x = .slice A m c) (hown : OwnV S wx w.heap.size e v k L) (hext : Ext w wx) (hxs : Vec S wx A m xs) (hk : k + m ≤ 1000000)
    (h : ∀ v' w1, OwnV S w1 w.heap.size e v' (k + m) (L ++ xs) → Hid (Ext w w1) → Hid (wx.grownBy w1 v.ownBlock ∧ (v'.ownBlock = v.ownBlock ∨ v'.ownBlock = some wx.heap.size)) → K (a.put o.dst v') w1) :
    if Region.wanted o (yielded ops a.tmps) = true then Oper.wp P o a wx K Q else E := by
  have hw : Region.wanted o (yielded ops a.tmps) = true := by simp [Region.wanted, hgd]
  rw [if_pos hw]
  exact wp_append_cells (news := xs.flatMap S.cells) T e z S.size bytes ho ht hinfo hzs S.pos hby hs hx hown hext (by rw [flat_len, hxs.1])
    (fun hm => by
      obtain ⟨b, off, hA, _, _⟩ := hxs.2 hm
      subst hA
      exact ⟨_, rfl, hxs.cells_at⟩) (fun u hu => by obtain ⟨y, _, hy⟩ := List.mem_flatMap.1 hu; exact S.one y u hy) hk
    fun v' w' h2 h3 h4 h5 => h v' w' (by unfold OwnV; rw [List.flatMap_append]; exact h2) h3 ⟨h4, h5⟩
end
theorem OwnV.empty_ {α : Type} (S : Shp α) {w : World} {g B : Nat} {e : TypeId} (h : w.heap[g]? = some (.cells #[] e (0, 0))) (hB : B ≤ g) : OwnV S w B e (.slice (some ⟨g, 0, none⟩) 0 0) 0 [] :=
  ⟨by simp, .inr ⟨g, 0, #[], rfl, hB, h, Nat.le_refl _, by simp, by simp, by simp⟩⟩
theorem ros_one {w : World} {K : Nat → Prop} {x : Raw} {r : Ro} (h : RoAt w K x r) : RosAt w K [x] [r] := ⟨rfl, fun k hk => by
  obtain rfl : k = 0 := by simp at hk; omega
  exact h⟩
theorem own_frozen {α : Type} {S : Shp α} {w : World} {B k n c : Nat} {e : TypeId} {A : Option Addr} {l : List α} (h : OwnV S w B e (.slice A n c) k l) : 0 < k → ∀ b off, A = some ⟨b, off, none⟩ → (∀ o, w.frozen? ⟨b, o, none⟩ = false) ∧ b < w.heap.size := by
  intro hk b off e
  subst e
  have hblk := (h.blk b rfl).2
  obtain ⟨_, ⟨h1, h2⟩ | ⟨g, cap, cur, h1, h2, h3, h4⟩⟩ := h
  · omega
  · simp only [Value.slice.injEq, Option.some.injEq, Addr.mk.injEq] at h1
    obtain ⟨⟨rfl, rfl, -⟩, rfl, -⟩ := h1
    refine ⟨fun o => ?_, hblk⟩
    unfold World.frozen?
    simp [h3]
end Go.Proofs.YtjjhoonkooihjaaGreatDoor
/- The contracts of Same of charts, both. -/
namespace Go.Proofs.YtjjhoonkooihjaaGreatDoor
set_option maxRecDepth 100000
open Go.RowKit Go.ChangeShapes Go.WideShapes Go.Joins
theorem ro_eq {xs ys : List Ro} {n : Nat} (hx : xs.length = n) (hy : ys.length = n) (h : ∀ j, j < n → xs.getD j ro0 = ys.getD j ro0) : xs = ys := by
  apply List.ext_getElem (by omega)
  intro i h1 h2
  have := h i (by omega)
  rwa [List.getD_eq_getElem?_getD, List.getD_eq_getElem?_getD, List.getElem?_eq_getElem h1, List.getElem?_eq_getElem h2] at this
/-- whether two charts are the same -/
def sameC (s : Int) (l : List Ro) (t : Int) (r : List Ro) : Bool := decide (s = t ∧ l = r)
theorem sameC_no {s t : Int} {l r : List Ro} (h : ¬ (s = t ∧ l = r)) : sameC s l t r = false := by simpa [sameC] using h
theorem sameC_yes (s : Int) (l : List Ro) : sameC s l s l = true := by simp [sameC]
set_option maxRecDepth 100000 in
set_option maxHeartbeats 4000000 in
theorem rcsame_any (s t : Int) (A B : Option Addr) (m n c d : Nat) (l r : List Ro) (w : World) (hr : Rws w (fun _ => True) A m l) (hr2 : Rws w (fun _ => True) B n r) :
    Calls Tryz.prog 14 #[.agg #[.int .i64 s, .slice A m c], .agg #[.int .i64 t, .slice B n d]] w fun e w' => e = .returned (.bool (sameC s l t r)) ∧ Ext w w' := by
  have hml := hr.len
  have hnl := hr2.len
  have hmm := hr.1
  unfold maxLen at hmm
  have hm2 : (m : Int) ≤ 9223372036854775807 := by omega
  have HR := Lib.hid hr
  have HL := Lib.hid hml
  have HR2 := Lib.hid hr2
  have HL2 := Lib.hid hnl
  clear hr hml hmm hr2 hnl
  by_cases hst : s = t
  · subst hst
    by_cases hmn : m = n
    · subst hmn
      go_enter Tryz.func14, Tryz.ntmps14
      go_wp2_with fail
      go_loopw [5] (fun i wr => ∃ (k : Nat), i = .int .i64 k ∧ k ≤ m ∧ Hid (∀ j, j < k → l.getD j ro0 = r.getD j ro0) ∧ Hid (Ext ((w.alloc (.cells #[.int .i64 s, .slice A m c] 24)).alloc (.cells #[.int .i64 s, .slice B m d] 24)) wr)) (fun i _ => m - (intOf i).toNat)
      case atStart => exact ⟨0, rfl, Nat.zero_le _, Lib.hid (fun j hj => absurd hj (by omega)), Lib.hid (by repeat (first | exact Ext.refl _ | assumption | refine Ext.alloc ?_ _ | refine Ext.drew ?_ | refine Ext.drewN ?_ _ | refine Ext.trans ?_ (by assumption)))⟩
      case round =>
        obtain ⟨k, rfl, hk, HG, HX0⟩ := hrel
        have hx := HX0.out
        obtain ⟨hf1, hf2, hf3⟩ := hx.facts
        by_cases hlt : k < m
        · obtain ⟨b, off, A', m', c', rfl, hb0, -, c0, c1, hv, hm', hby, -⟩ := (HR.out.ext ((Ext.alloc (Ext.alloc (Ext.refl w) _) _).trans hx)).at_ hlt
          obtain ⟨b', off', B', n', d', rfl, hb0', -, e0, e1, hv', hn', hby', -⟩ := (HR2.out.ext ((Ext.alloc (Ext.alloc (Ext.refl w) _) _).trans hx)).at_ hlt
          have q0 : (0 : Int) ≤ (k : Int) := by omega
          have q1 : (k : Int) < (m : Int) := by omega
          have HW := Lib.hid hv
          have HW' := Lib.hid hv'
          have hm' := Lib.hid hm'
          clear hv hv' hn' hby hby'
          generalize hrow : l.getD k ro0 = x at *
          generalize hrow' : r.getD k ro0 = y at *
          have HX := Lib.hid hrow
          have HY := Lib.hid hrow'
          clear hrow hrow'
          obtain ⟨xb, xc⟩ := x
          obtain ⟨yb, yc⟩ := y
          simp only at c0 e0
          have hz1 : w.heap.size < wr.heap.size := hf3 _ (by simp only [World.size_alloc]; omega)
          have hz2 : w.heap.size + 1 < wr.heap.size := hf3 _ (by simp only [World.size_alloc]; omega)
          obtain ⟨wq, rfl⟩ : ∃ wq : World, wq = wr := ⟨_, rfl⟩
          have g0 : wq.cell? ⟨w.heap.size, 1, none⟩ = some (.slice (some ⟨b, off, none⟩) m c) := by rw [hf1 _ _ (by simp only [World.size_alloc]; omega)]; simp [go_sem]
          have g1 : wq.cell? ⟨w.heap.size + 1, 1, none⟩ = some (.slice (some ⟨b', off', none⟩) m d) := by rw [hf1 _ _ (by simp only [World.size_alloc]; omega)]; simp [go_sem]
          by_cases hbb : xb = yb
          · subst hbb
            by_cases hcc : xc = yc
            · subst hcc
              have HN := Lib.hid (show ∀ j, j < k + 1 → l.getD j ro0 = r.getD j ro0 from fun j hj => by
                rcases Nat.lt_or_ge j k with h | h
                · exact HG.out j h
                · obtain rfl : j = k := by omega
                  rw [HX.out, HY.out])
              go_wp2_with fail
              go_region_held3 (fun w' => w'.cell? ⟨w.heap.size, 1, none⟩ = some (.slice (some ⟨b, off, none⟩) m c) ∧ w'.cell? ⟨w.heap.size + 1, 1, none⟩ = some (.slice (some ⟨b', off', none⟩) m d) ∧ w'.cell? ⟨b, off + k * 2, none⟩ = some (.bool xb) ∧ w'.cell? ⟨b, off + k * 2 + 1, none⟩ = some (.slice A' m' c') ∧ w'.cell? ⟨b', off' + k * 2, none⟩ = some (.bool xb) ∧ w'.cell? ⟨b', off' + k * 2 + 1, none⟩ = some (.slice B' n' d')) (go_keep)
                (first | (go_at_call 24; ((with_reducible refine (rsame_any m' n' c' d' A' B' xc xc _ (HW.out.ext (by repeat (first | exact Ext.refl _ | assumption | refine Ext.alloc ?_ _ | refine Ext.drew ?_ | refine Ext.drewN ?_ _ | refine Ext.trans ?_ (by assumption)))) (HW'.out.ext (by repeat (first | exact Ext.refl _ | assumption | refine Ext.alloc ?_ _ | refine Ext.drew ?_ | refine Ext.drewN ?_ _ | refine Ext.trans ?_ (by assumption)))) hm'.out).mono ?_); rintro e w1 ⟨rfl, hq1⟩; rw [show decide (xc = xc) = true from decide_eq_true rfl]; have hq9 : Ext wq w1 := (by repeat (first | exact Ext.refl _ | assumption | refine Ext.alloc ?_ _ | refine Ext.drew ?_ | refine Ext.drewN ?_ _ | refine Ext.trans ?_ (by assumption))); obtain ⟨hg1, hg2, hg3⟩ := hq9.facts)))
              go_wp2
              go_roundw
              case rel => exact ⟨k + 1, by go_num, by omega, HN, Lib.hid (hx.trans hq9)⟩
              case measure => simp [intOf]; omega
            · have HD := Lib.hid (show decide (xc = yc) = false by simp [hcc])
              have HN := Lib.hid (sameC_no (s := s) (t := s) (l := l) (r := r) (fun h => by
                have h1 := HX.out
                rw [h.2, HY.out] at h1
                cases h1
                exact hcc rfl))
              clear hcc
              go_wp2_with fail
              go_region_held3 (fun w' => w'.cell? ⟨w.heap.size, 1, none⟩ = some (.slice (some ⟨b, off, none⟩) m c) ∧ w'.cell? ⟨w.heap.size + 1, 1, none⟩ = some (.slice (some ⟨b', off', none⟩) m d) ∧ w'.cell? ⟨b, off + k * 2, none⟩ = some (.bool xb) ∧ w'.cell? ⟨b, off + k * 2 + 1, none⟩ = some (.slice A' m' c') ∧ w'.cell? ⟨b', off' + k * 2, none⟩ = some (.bool xb) ∧ w'.cell? ⟨b', off' + k * 2 + 1, none⟩ = some (.slice B' n' d')) (go_keep)
                (first | (go_at_call 24; ((with_reducible refine (rsame_any m' n' c' d' A' B' xc yc _ (HW.out.ext (by repeat (first | exact Ext.refl _ | assumption | refine Ext.alloc ?_ _ | refine Ext.drew ?_ | refine Ext.drewN ?_ _ | refine Ext.trans ?_ (by assumption)))) (HW'.out.ext (by repeat (first | exact Ext.refl _ | assumption | refine Ext.alloc ?_ _ | refine Ext.drew ?_ | refine Ext.drewN ?_ _ | refine Ext.trans ?_ (by assumption)))) hm'.out).mono ?_); rintro e w1 ⟨rfl, hq1⟩; rw [HD.out]; have hq9 : Ext wq w1 := (by repeat (first | exact Ext.refl _ | assumption | refine Ext.alloc ?_ _ | refine Ext.drew ?_ | refine Ext.drewN ?_ _ | refine Ext.trans ?_ (by assumption))); obtain ⟨hg1, hg2, hg3⟩ := hq9.facts)))
              go_wp2
              go_ret
              exact ⟨by rw [HN.out]; rfl, (Ext.alloc (Ext.alloc (Ext.refl w) _) _).trans (hx.trans hq9)⟩
          · have HN := Lib.hid (sameC_no (s := s) (t := s) (l := l) (r := r) (fun h => by
              have h1 := HX.out
              rw [h.2, HY.out] at h1
              cases h1
              exact hbb rfl))
            have hb9 : (xb = true ∧ yb = false) ∨ (xb = false ∧ yb = true) := by cases xb <;> cases yb <;> simp at hbb ⊢
            clear hbb
            rcases hb9 with ⟨rfl, rfl⟩ | ⟨rfl, rfl⟩
            all_goals
              go_wp2_with fail
              go_quiet (fail)
              go_wp2
              go_ret
              exact ⟨by rw [HN.out]; rfl, (Ext.alloc (Ext.alloc (Ext.refl w) _) _).trans (by repeat (first | exact Ext.refl _ | assumption | refine Ext.alloc ?_ _ | refine Ext.drew ?_ | refine Ext.drewN ?_ _ | refine Ext.trans ?_ (by assumption)))⟩
        · obtain rfl : k = m := by omega
          have HE := Lib.hid (ro_eq HL.out HL2.out HG.out)
          have HN := Lib.hid (show sameC s l s r = true by rw [HE.out, sameC_yes])
          go_wp2_with fail
          go_ret
          exact ⟨by rw [HN.out]; rfl, (Ext.alloc (Ext.alloc (Ext.refl w) _) _).trans hx⟩
    · have HN := Lib.hid (sameC_no (s := s) (t := s) (l := l) (r := r) (fun h => hmn (by rw [← HL.out, h.2, HL2.out])))
      have hne : ((m : Int) != (n : Int)) = true := by simp; omega
      go_enter Tryz.func14, Tryz.ntmps14
      go_wp2_with fail
      go_ret
      exact ⟨by rw [HN.out]; rfl, by repeat (first | exact Ext.refl _ | assumption | refine Ext.alloc ?_ _ | refine Ext.drew ?_ | refine Ext.drewN ?_ _ | refine Ext.trans ?_ (by assumption))⟩
  · have HN := Lib.hid (sameC_no (s := s) (t := t) (l := l) (r := r) (fun h => hst h.1))
    have hne : (s != t) = true := by simpa using hst
    clear hst
    go_enter Tryz.func14, Tryz.ntmps14
    go_wp2_with fail
    go_ret
    exact ⟨by rw [HN.out]; rfl, by repeat (first | exact Ext.refl _ | assumption | refine Ext.alloc ?_ _ | refine Ext.drew ?_ | refine Ext.drewN ?_ _ | refine Ext.trans ?_ (by assumption))⟩
end Go.Proofs.YtjjhoonkooihjaaGreatDoor
