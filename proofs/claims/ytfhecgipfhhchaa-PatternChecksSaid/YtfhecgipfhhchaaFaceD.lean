/- Part of a chart, both. -/
import Derived.Test.YtfhecgipfhhchaaChartX
namespace Go.Proofs.Ytfhecgipfhhchaa
set_option maxRecDepth 100000
open Go.RowKit Go.ChangeShapes Go.WideShapes Go.Joins
/-- the error of Part -/
def partE (s : Int) (l : List Ro) (i j : Int) : Int := if chkC s l ≠ 0 then chkC s l else if i < 0 ∨ j < i ∨ (l.length : Int) < j then 2 else 0
def partL (s : Int) (l : List Ro) (i j : Int) : List Ro := if partE s l i j = 0 then (l.drop i.toNat).take (j.toNat - i.toNat) else []
def partS (s : Int) (l : List Ro) (i j : Int) : Int := if partE s l i j = 0 then (cntC s l).getD i.toNat 0 else 0
theorem part_1 {s : Int} {l : List Ro} {i j x : Int} (h : chkC s l = x) (h0 : x ≠ 0) : partE s l i j = x ∧ partL s l i j = [] ∧ partS s l i j = 0 := by
  have h1 : partE s l i j = x := by rw [partE, if_pos (by rw [h]; exact h0), h]
  exact ⟨h1, by rw [partL, if_neg (by rw [h1]; exact h0)], by rw [partS, if_neg (by rw [h1]; exact h0)]⟩
theorem part_2 {s : Int} {l : List Ro} {i j : Int} (h : chkC s l = 0) (hi : i < 0 ∨ j < i ∨ (l.length : Int) < j) : partE s l i j = 2 ∧ partL s l i j = [] ∧ partS s l i j = 0 := by
  have h1 : partE s l i j = 2 := by rw [partE, if_neg (by simpa using h), if_pos hi]
  exact ⟨h1, by rw [partL, if_neg (by rw [h1]; decide)], by rw [partS, if_neg (by rw [h1]; decide)]⟩
theorem part_0 {s : Int} {l : List Ro} {k q : Nat} (h : chkC s l = 0) (h1 : k ≤ q) (h2 : q ≤ l.length) : partE s l k q = 0 ∧ partL s l k q = (l.drop k).take (q - k) ∧ partS s l k q = (cntC s l).getD k 0 := by
  have h1 : partE s l (k : Int) (q : Int) = 0 := by rw [partE, if_neg (by simpa using h), if_neg (by omega)]
  exact ⟨h1, by rw [partL, if_pos h1]; rfl, by rw [partS, if_pos h1]; rfl⟩
theorem cnt_at {s : Int} {l : List Ro} {w : World} {A : Option Addr} {n k : Nat} (h : Ints w A n (cntC s l)) (hk : k ≤ l.length) : n = l.length + 1 ∧ ∃ b off, A = some ⟨b, off, none⟩ ∧ b < w.heap.size ∧ w.cell? ⟨b, off + k, none⟩ = some (.int .i64 ((cntC s l).getD k 0)) := by
  have hn : n = l.length + 1 := by rw [← h.1, cntC_len]
  obtain ⟨b, off, e, hb, hc⟩ := h.2 (by omega)
  exact ⟨hn, b, off, e, hb, hc k (by omega)⟩
theorem ChR.no {w w' : World} {e : Ending} {x : Int} (h : e = .returned (.tuple #[.agg #[.int .i64 0, .slice none 0 0], .int .i64 x])) (hb : Ext w w') : ChR 0 [] x w e w' := ⟨none, 0, 0, h, hb, Rws.none_ _ _ _⟩
theorem part_cells {l : List Ro} {m k q : Nat} (h : ∀ j, j < m → (l.getD j ro0).cells.length ≤ 1000) (hq : q ≤ m) : ∀ j, j < q - k → (((l.drop k).take (q - k)).getD j ro0).cells.length ≤ 1000 := fun j hj => by
  rw [List.getD_eq_getElem?_getD, List.getElem?_take, if_pos hj, List.getElem?_drop, ← List.getD_eq_getElem?_getD]
  exact h (k + j) (by omega)
set_option maxRecDepth 100000 in
set_option maxHeartbeats 8000000 in
theorem cpart_any (s i j : Int) (A : Option Addr) (m c : Nat) (la : List Ro) (w : World) (ha : Rws w (fun _ => True) A m la) (hcap : m ≤ c) :
    Calls Try.prog 13 #[.agg #[.int .i64 s, .slice A m c], .int .i64 i, .int .i64 j] w (ChR (partS s la i j) (partL s la i j) (partE s la i j) w) := by
  have HLA := Lib.hid ha.len
  have HA := Lib.hid ha
  clear ha
  have hB0 := Lib.hid (show Ext w ((w.alloc (.cells #[.int .i64 s, .slice A m c] 31)).alloc (.cells #[.int .i64 0, .slice none 0 0] 31)) from ((Ext.refl _).alloc _).alloc _)
  have hb : Ext ((w.alloc (.cells #[.int .i64 s, .slice A m c] 31)).alloc (.cells #[.int .i64 0, .slice none 0 0] 31)) ((w.alloc (.cells #[.int .i64 s, .slice A m c] 31)).alloc (.cells #[.int .i64 0, .slice none 0 0] 31)) := Ext.refl _
  have hlt2 : w.heap.size < w.heap.size + 1 + 1 := by omega
  obtain ⟨hc, hf, hz⟩ := hb.facts
  have HU0 := Lib.hid (fun (w' : World) (h : Ext ((w.alloc (.cells #[.int .i64 s, .slice A m c] 31)).alloc (.cells #[.int .i64 0, .slice none 0 0] 31)) w') => (show w'.cell? ⟨w.heap.size + 1, 0, none⟩ = some (.int .i64 0) by rw [(Ext.facts h).1 _ _ (by simp only [World.size_alloc]; omega)]; simp [go_sem]))
  have HU1 := Lib.hid (fun (w' : World) (h : Ext ((w.alloc (.cells #[.int .i64 s, .slice A m c] 31)).alloc (.cells #[.int .i64 0, .slice none 0 0] 31)) w') => (show w'.cell? ⟨w.heap.size + 1, 1, none⟩ = some (.slice none 0 0) by rw [(Ext.facts h).1 _ _ (by simp only [World.size_alloc]; omega)]; simp [go_sem]))
  by_cases h1 : chkC s la = 0
  case neg =>
    obtain ⟨x, hx⟩ : ∃ x, chkC s la = x := ⟨_, rfl⟩
    rw [hx] at h1
    obtain ⟨e1, e2, e3⟩ := part_1 (i := i) (j := j) hx h1
    rw [e1, e2, e3]
    have HC1 := Lib.hid hx
    have hne : (x != 0) = true := by simpa using h1
    clear h1 e1 e2 e3 hx
    go_enter Try.func13, Try.ntmps13
    go_wp2_with (first | (go_at_call 27; ((with_reducible refine (ccounts_any s A m c la _ (HA.out.ext (hB0.out.trans (hb.trans (by repeat (first | exact Ext.refl _ | refine Ext.drew ?_ | refine Ext.drewN ?_ _ | refine Ext.alloc ?_ _)))))).mono ?_); intro e w1 hr1; obtain ⟨A1, n1, c1, rfl, hq1⟩ := hr1.out_no; rw [HC1.out]; replace hb := Ext.via hb hq1 (by repeat (first | exact Ext.refl _ | refine Ext.drew ?_ | refine Ext.drewN ?_ _ | refine Ext.alloc ?_ _)); clear hq1 hr1; obtain ⟨hc, hf, hz⟩ := hb.facts)))
    obtain ⟨k0, k1⟩ := res_cells (v0 := .int .i64 0) (v1 := .slice none 0 0) (HU0.out _ hb) (HU1.out _ hb)
    have HX9 := Lib.hid (hB0.out.trans hb)
    clear hc hf hz
    exact bodyPost_ret (v := .tuple #[.agg #[.int .i64 0, .slice none 0 0], .int .i64 x]) (by simp [results, Try.f13, go_sem, k0, k1]) rfl (ChR.no rfl (Below.setCell (Below.setCell HX9.out (by simp) _) (by simp) _))
  by_cases hx : i < 0
  · obtain ⟨e1, e2, e3⟩ := part_2 (i := i) (j := j) h1 (.inl hx)
    rw [e1, e2, e3]
    have HC1 := Lib.hid h1
    clear h1 e1 e2 e3
    go_enter Try.func13, Try.ntmps13
    go_wp2_with (first | (go_at_call 27; ((with_reducible refine (ccounts_any s A m c la _ (HA.out.ext (hB0.out.trans (hb.trans (by repeat (first | exact Ext.refl _ | refine Ext.drew ?_ | refine Ext.drewN ?_ _ | refine Ext.alloc ?_ _)))))).mono ?_); intro e w1 hr1; obtain ⟨A1, n1, c1, rfl, hq1⟩ := hr1.out_no; rw [HC1.out]; replace hb := Ext.via hb hq1 (by repeat (first | exact Ext.refl _ | refine Ext.drew ?_ | refine Ext.drewN ?_ _ | refine Ext.alloc ?_ _)); clear hq1 hr1; obtain ⟨hc, hf, hz⟩ := hb.facts)))
    obtain ⟨k0, k1⟩ := res_cells (v0 := .int .i64 0) (v1 := .slice none 0 0) (HU0.out _ hb) (HU1.out _ hb)
    have HX9 := Lib.hid (hB0.out.trans hb)
    clear hc hf hz
    exact bodyPost_ret (v := .tuple #[.agg #[.int .i64 0, .slice none 0 0], .int .i64 2]) (by simp [results, Try.f13, go_sem, k0, k1]) rfl (ChR.no rfl (Below.setCell (Below.setCell HX9.out (by simp) _) (by simp) _))
  by_cases hx : j < i
  · obtain ⟨e1, e2, e3⟩ := part_2 (i := i) (j := j) h1 (.inr (.inl hx))
    rw [e1, e2, e3]
    have HC1 := Lib.hid h1
    clear h1 e1 e2 e3
    go_enter Try.func13, Try.ntmps13
    go_wp2_with (first | (go_at_call 27; ((with_reducible refine (ccounts_any s A m c la _ (HA.out.ext (hB0.out.trans (hb.trans (by repeat (first | exact Ext.refl _ | refine Ext.drew ?_ | refine Ext.drewN ?_ _ | refine Ext.alloc ?_ _)))))).mono ?_); intro e w1 hr1; obtain ⟨A1, n1, c1, rfl, hq1⟩ := hr1.out_no; rw [HC1.out]; replace hb := Ext.via hb hq1 (by repeat (first | exact Ext.refl _ | refine Ext.drew ?_ | refine Ext.drewN ?_ _ | refine Ext.alloc ?_ _)); clear hq1 hr1; obtain ⟨hc, hf, hz⟩ := hb.facts)))
    obtain ⟨k0, k1⟩ := res_cells (v0 := .int .i64 0) (v1 := .slice none 0 0) (HU0.out _ hb) (HU1.out _ hb)
    have HX9 := Lib.hid (hB0.out.trans hb)
    clear hc hf hz
    exact bodyPost_ret (v := .tuple #[.agg #[.int .i64 0, .slice none 0 0], .int .i64 2]) (by simp [results, Try.f13, go_sem, k0, k1]) rfl (ChR.no rfl (Below.setCell (Below.setCell HX9.out (by simp) _) (by simp) _))
  by_cases hx : (m : Int) < j
  · obtain ⟨e1, e2, e3⟩ := part_2 (i := i) (j := j) h1 (.inr (.inr (by rw [HLA.out]; exact hx)))
    rw [e1, e2, e3]
    have HC1 := Lib.hid h1
    clear h1 e1 e2 e3
    go_enter Try.func13, Try.ntmps13
    go_wp2_with (first | (go_at_call 27; ((with_reducible refine (ccounts_any s A m c la _ (HA.out.ext (hB0.out.trans (hb.trans (by repeat (first | exact Ext.refl _ | refine Ext.drew ?_ | refine Ext.drewN ?_ _ | refine Ext.alloc ?_ _)))))).mono ?_); intro e w1 hr1; obtain ⟨A1, n1, c1, rfl, hq1⟩ := hr1.out_no; rw [HC1.out]; replace hb := Ext.via hb hq1 (by repeat (first | exact Ext.refl _ | refine Ext.drew ?_ | refine Ext.drewN ?_ _ | refine Ext.alloc ?_ _)); clear hq1 hr1; obtain ⟨hc, hf, hz⟩ := hb.facts)))
    obtain ⟨k0, k1⟩ := res_cells (v0 := .int .i64 0) (v1 := .slice none 0 0) (HU0.out _ hb) (HU1.out _ hb)
    have HX9 := Lib.hid (hB0.out.trans hb)
    clear hc hf hz
    exact bodyPost_ret (v := .tuple #[.agg #[.int .i64 0, .slice none 0 0], .int .i64 2]) (by simp [results, Try.f13, go_sem, k0, k1]) rfl (ChR.no rfl (Below.setCell (Below.setCell HX9.out (by simp) _) (by simp) _))
  obtain ⟨k, rfl⟩ : ∃ k : Nat, i = (k : Int) := ⟨i.toNat, by omega⟩
  obtain ⟨q, rfl⟩ : ∃ q : Nat, j = (q : Int) := ⟨j.toNat, by omega⟩
  have hkq : k ≤ q := by omega
  have hqm : q ≤ m := by omega
  obtain ⟨e1, e2, e3⟩ := part_0 (k := k) (q := q) h1 hkq (by rw [HLA.out]; exact hqm)
  rw [e1, e2, e3]
  have HC1 := Lib.hid h1
  have HKM := Lib.hid (show k ≤ la.length by rw [HLA.out]; omega)
  have hm9 : m ≤ 100 := by rw [← HLA.out]; exact (chk_cells h1).1
  have HCA := Lib.hid (show ∀ k, k < m → (la.getD k ro0).cells.length ≤ 1000 by rw [← HLA.out]; exact (chk_cells h1).2)
  have q0 : (0 : Int) ≤ (k : Int) := by omega
  have q1 : (k : Int) ≤ (q : Int) := by omega
  have q2 : (q : Int) ≤ (m : Int) := by omega
  have q3 : (q : Int) ≤ (c : Int) := by omega
  have q4 : (k : Int) < (la.length : Int) + 1 := by have := HKM.out; omega
  clear h1 e1 e2 e3
  have HPT := Lib.hid (HA.out.part hkq hqm)
  have HAT := Lib.hid (show k < q → ∃ b off, A = some ⟨b, off, none⟩ from fun h => by
    obtain ⟨b, off, _, _, _, e, _⟩ := HA.out.at_ (k := k) (by omega)
    exact ⟨b, off, e⟩)
  by_cases hck : c = k
  case pos =>
      have hce : ∀ (x y : Option Addr), (if c = k then x else y) = x := fun x y => if_pos hck
      have HQK := Lib.hid (show q - k = 0 by omega)
      clear hck
      go_enter Try.func13, Try.ntmps13
      go_wp2_with (first | (go_at_call 27; ((with_reducible refine (ccounts_any s A m c la _ (HA.out.ext (hB0.out.trans (hb.trans (by repeat (first | exact Ext.refl _ | refine Ext.drew ?_ | refine Ext.drewN ?_ _ | refine Ext.alloc ?_ _)))))).mono ?_); intro e w1 hr1; obtain ⟨A1, n1, c1, rfl, hq1, hi1, hfr1⟩ := hr1.out_ok HC1.out; have HE1 := Lib.hid (show Ext ((w.alloc (.cells #[.int .i64 s, .slice A m c] 31)).alloc (.cells #[.int .i64 0, .slice none 0 0] 31)) w1 from hb.trans (Ext.trans (by repeat (first | exact Ext.refl _ | refine Ext.drew ?_ | refine Ext.drewN ?_ _ | refine Ext.alloc ?_ _)) hq1)); replace hb := Ext.via hb hq1 (by repeat (first | exact Ext.refl _ | refine Ext.drew ?_ | refine Ext.drewN ?_ _ | refine Ext.alloc ?_ _)); clear hq1 hr1; obtain ⟨hc, hf, hz⟩ := hb.facts; obtain ⟨rfl, b1, o1, rfl, hb1, hl1⟩ := cnt_at hi1 HKM.out; have hfr2 := hfr1 _ _ rfl; clear hi1 hfr1)))
      obtain ⟨hc, hf, hz⟩ := Ext.facts hb
      have m1 : w1.cell? ⟨w.heap.size, 1, none⟩ = some (.slice A m c) := by rw [hc _ _ (by simp only [World.size_alloc]; omega)]; simp [go_sem]
      have k0 := HU0.out _ hb
      have k1 := HU1.out _ hb
      have k2 : w1.frozen? ⟨w.heap.size + 1, 0, none⟩ = false := by rw [hf _ _ (by simp only [World.size_alloc]; omega)]; simp [go_sem]
      have k3 : w1.frozen? ⟨w.heap.size + 1, 1, none⟩ = false := by rw [hf _ _ (by simp only [World.size_alloc]; omega)]; simp [go_sem]
      have hz9 : w.heap.size + 1 + 1 ≤ w1.heap.size := by have h9 := Below.size hb; simp only [World.size_alloc] at h9; omega
      have z0 : w.heap.size < w1.heap.size := by omega
      have z2 : w.heap.size + 1 < w1.heap.size := by omega
      simp only [World.size_alloc] at hfr2
      have z3 : ¬ (b1 = w.heap.size + 1) := by omega
      have z4 : ¬ (w.heap.size + 1 = b1) := by omega
      have HBQ := Lib.hid hb
      clear hc hf hz hlt2
      go_region_held3 (fun w' => w'.cell? ⟨w.heap.size, 1, none⟩ = some (.slice A m c) ∧ w'.cell? ⟨b1, o1 + k, none⟩ = some (.int .i64 ((cntC s la).getD k 0))) (go_keep)
        (first
          | (go_at_call 28; go_loud (((with_reducible refine (ctwin_any _ (q - k) _ ((la.drop k).take (q - k)) _ ((HPT.out _ (fun h => by have := HQK.out; exact absurd h (by omega))).ext (hB0.out.trans (hb.trans (by repeat (first | exact Ext.refl _ | refine Ext.drew ?_ | refine Ext.drewN ?_ _ | refine Ext.alloc ?_ _))))) (by omega) (part_cells HCA.out hqm)).mono ?_); rintro e w4 ⟨V1, rfl, hq4, ho4⟩; have HE4 := Lib.hid (show Ext w1 w4 from Ext.trans (by repeat (first | exact Ext.refl _ | refine Ext.drew ?_ | refine Ext.drewN ?_ _ | refine Ext.alloc ?_ _)) hq4); replace hb := HBQ.out.trans HE4.out; clear hq4; obtain ⟨hc, hf, hz⟩ := HE4.out.facts; obtain ⟨A6, c6, rfl, hr6⟩ := own_rws (show OwnR w4 w1.heap.size 65 V1 _ _ from ho4) (by rw [List.length_take]; omega); rw [List.length_take, List.length_drop] at hr6; have HR6 := Lib.hid hr6; clear hr6 ho4))))
      go_wp2
      obtain ⟨y0, y1⟩ := res_cells (v0 := .int .i64 ((cntC s la)[k]?.getD 0)) (v1 := .slice A6 (min (q - k) (la.length - k)) c6) (HU0.out w4 hb) (HU1.out w4 hb)
      have HX9 := Lib.hid (hB0.out.trans hb)
      have HR9 := Lib.hid (res_rws (g := w.heap.size + 1) (v0 := .int .i64 ((cntC s la)[k]?.getD 0)) (v1 := .slice A6 (min (q - k) (la.length - k)) c6) HR6.out z2 (by omega : w.heap.size ≤ w1.heap.size))
      exact bodyPost_ret (v := .tuple #[.agg #[.int .i64 ((cntC s la)[k]?.getD 0), .slice A6 (min (q - k) (la.length - k)) c6], .int .i64 0]) (by simp [results, Try.f13, go_sem, y0, y1]) rfl ⟨A6, _, c6, by rw [List.getD_eq_getElem?_getD], Below.setCell (Below.setCell HX9.out (by simp) _) (by simp) _, HR9.out⟩
  go_enter Try.func13, Try.ntmps13
  go_wp2_with (first | (go_at_call 27; ((with_reducible refine (ccounts_any s A m c la _ (HA.out.ext (hB0.out.trans (hb.trans (by repeat (first | exact Ext.refl _ | refine Ext.drew ?_ | refine Ext.drewN ?_ _ | refine Ext.alloc ?_ _)))))).mono ?_); intro e w1 hr1; obtain ⟨A1, n1, c1, rfl, hq1, hi1, hfr1⟩ := hr1.out_ok HC1.out; have HE1 := Lib.hid (show Ext ((w.alloc (.cells #[.int .i64 s, .slice A m c] 31)).alloc (.cells #[.int .i64 0, .slice none 0 0] 31)) w1 from hb.trans (Ext.trans (by repeat (first | exact Ext.refl _ | refine Ext.drew ?_ | refine Ext.drewN ?_ _ | refine Ext.alloc ?_ _)) hq1)); replace hb := Ext.via hb hq1 (by repeat (first | exact Ext.refl _ | refine Ext.drew ?_ | refine Ext.drewN ?_ _ | refine Ext.alloc ?_ _)); clear hq1 hr1; obtain ⟨hc, hf, hz⟩ := hb.facts; obtain ⟨rfl, b1, o1, rfl, hb1, hl1⟩ := cnt_at hi1 HKM.out; have hfr2 := hfr1 _ _ rfl; clear hi1 hfr1)))
  obtain ⟨hc, hf, hz⟩ := Ext.facts hb
  have m1 : w1.cell? ⟨w.heap.size, 1, none⟩ = some (.slice A m c) := by rw [hc _ _ (by simp only [World.size_alloc]; omega)]; simp [go_sem]
  have k0 := HU0.out _ hb
  have k1 := HU1.out _ hb
  have k2 : w1.frozen? ⟨w.heap.size + 1, 0, none⟩ = false := by rw [hf _ _ (by simp only [World.size_alloc]; omega)]; simp [go_sem]
  have k3 : w1.frozen? ⟨w.heap.size + 1, 1, none⟩ = false := by rw [hf _ _ (by simp only [World.size_alloc]; omega)]; simp [go_sem]
  have hz9 : w.heap.size + 1 + 1 ≤ w1.heap.size := by have h9 := Below.size hb; simp only [World.size_alloc] at h9; omega
  have z0 : w.heap.size < w1.heap.size := by omega
  have z2 : w.heap.size + 1 < w1.heap.size := by omega
  simp only [World.size_alloc] at hfr2
  have z3 : ¬ (b1 = w.heap.size + 1) := by omega
  have z4 : ¬ (w.heap.size + 1 = b1) := by omega
  have HBQ := Lib.hid hb
  clear hc hf hz hlt2
  go_region_held3 (fun w' => w'.cell? ⟨w.heap.size, 1, none⟩ = some (.slice A m c) ∧ w'.cell? ⟨b1, o1 + k, none⟩ = some (.int .i64 ((cntC s la).getD k 0))) (go_keep)
    (first
      | (go_at_call 28; go_loud (((with_reducible refine (ctwin_any _ (q - k) _ ((la.drop k).take (q - k)) _ ((HPT.out _ (fun h => by obtain ⟨b, off, e⟩ := HAT.out h; exact ⟨b, off, e, by rw [e]; simp [Addr.add]⟩)).ext (hB0.out.trans (hb.trans (by repeat (first | exact Ext.refl _ | refine Ext.drew ?_ | refine Ext.drewN ?_ _ | refine Ext.alloc ?_ _))))) (by omega) (part_cells HCA.out hqm)).mono ?_); rintro e w4 ⟨V1, rfl, hq4, ho4⟩; have HE4 := Lib.hid (show Ext w1 w4 from Ext.trans (by repeat (first | exact Ext.refl _ | refine Ext.drew ?_ | refine Ext.drewN ?_ _ | refine Ext.alloc ?_ _)) hq4); replace hb := HBQ.out.trans HE4.out; clear hq4; obtain ⟨hc, hf, hz⟩ := HE4.out.facts; obtain ⟨A6, c6, rfl, hr6⟩ := own_rws (show OwnR w4 w1.heap.size 65 V1 _ _ from ho4) (by rw [List.length_take]; omega); rw [List.length_take, List.length_drop] at hr6; have HR6 := Lib.hid hr6; clear hr6 ho4))))
  go_wp2
  obtain ⟨y0, y1⟩ := res_cells (v0 := .int .i64 ((cntC s la)[k]?.getD 0)) (v1 := .slice A6 (min (q - k) (la.length - k)) c6) (HU0.out w4 hb) (HU1.out w4 hb)
  have HX9 := Lib.hid (hB0.out.trans hb)
  have HR9 := Lib.hid (res_rws (g := w.heap.size + 1) (v0 := .int .i64 ((cntC s la)[k]?.getD 0)) (v1 := .slice A6 (min (q - k) (la.length - k)) c6) HR6.out z2 (by omega : w.heap.size ≤ w1.heap.size))
  exact bodyPost_ret (v := .tuple #[.agg #[.int .i64 ((cntC s la)[k]?.getD 0), .slice A6 (min (q - k) (la.length - k)) c6], .int .i64 0]) (by simp [results, Try.f13, go_sem, y0, y1]) rfl ⟨A6, _, c6, by rw [List.getD_eq_getElem?_getD], Below.setCell (Below.setCell HX9.out (by simp) _) (by simp) _, HR9.out⟩
end Go.Proofs.Ytfhecgipfhhchaa
