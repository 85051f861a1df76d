/- Part of a chart, both. -/
import Derived.Test.YtjjhoonkooihjaaGreatDoorG15
import Derived.Test.YtjjhoonkooihjaaGreatDoorG09
import Derived.Test.YtjjhoonkooihjaaGreatDoorG10
import Derived.Test.YtjjhoonkooihjaaGreatDoorG14
import Derived.Test.YtjjhoonkooihjaaGreatDoorG12
import Derived.Test.YtjjhoonkooihjaaGreatDoorG05
import Derived.Test.YtjjhoonkooihjaaGreatDoorTie
namespace Go.Proofs.YtjjhoonkooihjaaGreatDoor
set_option maxRecDepth 100000
open Go.RowKit Go.ChangeShapes Go.WideShapes Go.Joins
/-- the error of Part -/
def partE (s : Int) (l : List Ro) (i j : Int) : Int := if chkC s l ≠ 0 then chkC s l else if i < 0 ∨ j < i ∨ (l.length : Int) < j then 2 else 0
def partL (s : Int) (l : List Ro) (i j : Int) : List Ro := if partE s l i j = 0 then (l.drop i.toNat).take (j.toNat - i.toNat) else []
def partS (s : Int) (l : List Ro) (i j : Int) : Int := if partE s l i j = 0 then (cntC s l).getD i.toNat 0 else 0
theorem part_1 {s : Int} {l : List Ro} {i j x : Int} (h : chkC s l = x) (h0 : x ≠ 0) : partE s l i j = x ∧ partL s l i j = [] ∧ partS s l i j = 0 := by
  have h1 : partE s l i j = x := by rw [partE, if_pos (by rw [h]; exact h0), h]
  exact ⟨h1, by rw [partL, if_neg (by rw [h1]; exact h0)], by rw [partS, if_neg (by rw [h1]; exact h0)]⟩
theorem part_2 {s : Int} {l : List Ro} {i j : Int} (h : chkC s l = 0) (hi : i < 0 ∨ j < i ∨ (l.length : Int) < j) : partE s l i j = 2 ∧ partL s l i j = [] ∧ partS s l i j = 0 := by
  have h1 : partE s l i j = 2 := by rw [partE, if_neg (by simpa using h), if_pos hi]
  exact ⟨h1, by rw [partL, if_neg (by rw [h1]; decide)], by rw [partS, if_neg (by rw [h1]; decide)]⟩
theorem part_0 {s : Int} {l : List Ro} {k q : Nat} (h : chkC s l = 0) (h1 : k ≤ q) (h2 : q ≤ l.length) : partE s l k q = 0 ∧ partL s l k q = (l.drop k).take (q - k) ∧ partS s l k q = (cntC s l).getD k 0 := by
  have h1 : partE s l (k : Int) (q : Int) = 0 := by rw [partE, if_neg (by simpa using h), if_neg (by omega)]
  exact ⟨h1, by rw [partL, if_pos h1]; rfl, by rw [partS, if_pos h1]; rfl⟩
theorem cnt_at {s : Int} {l : List Ro} {w : World} {A : Option Addr} {n k : Nat} (h : Ints w A n (cntC s l)) (hk : k ≤ l.length) : n = l.length + 1 ∧ ∃ b off, A = some ⟨b, off, none⟩ ∧ b < w.heap.size ∧ w.cell? ⟨b, off + k, none⟩ = some (.int .i64 ((cntC s l).getD k 0)) := by
  have hn : n = l.length + 1 := by rw [← h.1, cntC_len]
  obtain ⟨b, off, e, hb, hc⟩ := h.2 (by omega)
  exact ⟨hn, b, off, e, hb, hc k (by omega)⟩
theorem ChR.no {w w' : World} {e : Ending} {x : Int} (h : e = .returned (.tuple #[.agg #[.int .i64 0, .slice none 0 0], .int .i64 x])) (hb : Ext w w') : ChR 0 [] x w e w' := ⟨none, 0, 0, h, hb, Rws.none_ _ _ _⟩
theorem part_cells {l : List Ro} {m k q : Nat} (h : ∀ j, j < m → (l.getD j ro0).cells.length ≤ 1000) (hq : q ≤ m) : ∀ j, j < q - k → (((l.drop k).take (q - k)).getD j ro0).cells.length ≤ 1000 := fun j hj => by
  rw [List.getD_eq_getElem?_getD, List.getElem?_take, if_pos hj, List.getElem?_drop, ← List.getD_eq_getElem?_getD]
  exact h (k + j) (by omega)
set_option maxRecDepth 100000 in
set_option maxHeartbeats 8000000 in
theorem cpart_any (s i j : Int) (A : Option Addr) (m c : Nat) (la : List Ro) (w : World) (ha : Rws w (fun _ => True) A m la) (hcap : m ≤ c) :
    Calls Tryz.prog 26 #[.agg #[.int .i64 s, .slice A m c], .int .i64 i, .int .i64 j] w (ChR (partS s la i j) (partL s la i j) (partE s la i j) w) := by
  have HLA := Lib.hid ha.len
  have HA := Lib.hid ha
  clear ha
  have hB0 := Lib.hid (show Ext w ((w.alloc (.cells #[.int .i64 s, .slice A m c] 24)).alloc (.cells #[.int .i64 0, .slice none 0 0] 24)) from ((Ext.refl _).alloc _).alloc _)
  have hb : Ext ((w.alloc (.cells #[.int .i64 s, .slice A m c] 24)).alloc (.cells #[.int .i64 0, .slice none 0 0] 24)) ((w.alloc (.cells #[.int .i64 s, .slice A m c] 24)).alloc (.cells #[.int .i64 0, .slice none 0 0] 24)) := Ext.refl _
  have hlt2 : w.heap.size < w.heap.size + 1 + 1 := by omega
  obtain ⟨hc, hf, hz⟩ := hb.facts
  have HU0 := Lib.hid (fun (w' : World) (h : Ext ((w.alloc (.cells #[.int .i64 s, .slice A m c] 24)).alloc (.cells #[.int .i64 0, .slice none 0 0] 24)) w') => (show w'.cell? ⟨w.heap.size + 1, 0, none⟩ = some (.int .i64 0) by rw [(Ext.facts h).1 _ _ (by simp only [World.size_alloc]; omega)]; simp [go_sem]))
  have HU1 := Lib.hid (fun (w' : World) (h : Ext ((w.alloc (.cells #[.int .i64 s, .slice A m c] 24)).alloc (.cells #[.int .i64 0, .slice none 0 0] 24)) w') => (show w'.cell? ⟨w.heap.size + 1, 1, none⟩ = some (.slice none 0 0) by rw [(Ext.facts h).1 _ _ (by simp only [World.size_alloc]; omega)]; simp [go_sem]))
  by_cases h1 : chkC s la = 0
  case neg =>
    obtain ⟨x, hx⟩ : ∃ x, chkC s la = x := ⟨_, rfl⟩
    rw [hx] at h1
    obtain ⟨e1, e2, e3⟩ := part_1 (i := i) (j := j) hx h1
    rw [e1, e2, e3]
    have HC1 := Lib.hid hx
    have hne : (x != 0) = true := by simpa using h1
    clear h1 e1 e2 e3 hx
    go_enter Tryz.func26, Tryz.ntmps26
    go_wp2_with (first | (go_at_call 17; ((with_reducible refine (ccounts_any s A m c la _ (HA.out.ext (hB0.out.trans (hb.trans (by repeat (first | exact Ext.refl _ | refine Ext.drew ?_ | refine Ext.drewN ?_ _ | refine Ext.alloc ?_ _)))))).mono ?_); intro e w1 hr1; obtain ⟨A1, n1, c1, rfl, hq1⟩ := hr1.out_no; rw [HC1.out]; replace hb := Ext.via hb hq1 (by repeat (first | exact Ext.refl _ | refine Ext.drew ?_ | refine Ext.drewN ?_ _ | refine Ext.alloc ?_ _)); clear hq1 hr1; obtain ⟨hc, hf, hz⟩ := hb.facts)))
    obtain ⟨k0, k1⟩ := res_cells (v0 := .int .i64 0) (v1 := .slice none 0 0) (HU0.out _ hb) (HU1.out _ hb)
    have HX9 := Lib.hid (hB0.out.trans hb)
    clear hc hf hz
    exact bodyPost_ret (v := .tuple #[.agg #[.int .i64 0, .slice none 0 0], .int .i64 x]) (by simp [results, Tryz.f26, go_sem, k0, k1]) rfl (ChR.no rfl (Below.setCell (Below.setCell HX9.out (by simp) _) (by simp) _))
  by_cases hx : i < 0
  · obtain ⟨e1, e2, e3⟩ := part_2 (i := i) (j := j) h1 (.inl hx)
    rw [e1, e2, e3]
    have HC1 := Lib.hid h1
    clear h1 e1 e2 e3
    go_enter Tryz.func26, Tryz.ntmps26
    go_wp2_with (first | (go_at_call 17; ((with_reducible refine (ccounts_any s A m c la _ (HA.out.ext (hB0.out.trans (hb.trans (by repeat (first | exact Ext.refl _ | refine Ext.drew ?_ | refine Ext.drewN ?_ _ | refine Ext.alloc ?_ _)))))).mono ?_); intro e w1 hr1; obtain ⟨A1, n1, c1, rfl, hq1⟩ := hr1.out_no; rw [HC1.out]; replace hb := Ext.via hb hq1 (by repeat (first | exact Ext.refl _ | refine Ext.drew ?_ | refine Ext.drewN ?_ _ | refine Ext.alloc ?_ _)); clear hq1 hr1; obtain ⟨hc, hf, hz⟩ := hb.facts)))
    obtain ⟨k0, k1⟩ := res_cells (v0 := .int .i64 0) (v1 := .slice none 0 0) (HU0.out _ hb) (HU1.out _ hb)
    have HX9 := Lib.hid (hB0.out.trans hb)
    clear hc hf hz
    exact bodyPost_ret (v := .tuple #[.agg #[.int .i64 0, .slice none 0 0], .int .i64 2]) (by simp [results, Tryz.f26, go_sem, k0, k1]) rfl (ChR.no rfl (Below.setCell (Below.setCell HX9.out (by simp) _) (by simp) _))
  by_cases hx : j < i
  · obtain ⟨e1, e2, e3⟩ := part_2 (i := i) (j := j) h1 (.inr (.inl hx))
    rw [e1, e2, e3]
    have HC1 := Lib.hid h1
    clear h1 e1 e2 e3
    go_enter Tryz.func26, Tryz.ntmps26
    go_wp2_with (first | (go_at_call 17; ((with_reducible refine (ccounts_any s A m c la _ (HA.out.ext (hB0.out.trans (hb.trans (by repeat (first | exact Ext.refl _ | refine Ext.drew ?_ | refine Ext.drewN ?_ _ | refine Ext.alloc ?_ _)))))).mono ?_); intro e w1 hr1; obtain ⟨A1, n1, c1, rfl, hq1⟩ := hr1.out_no; rw [HC1.out]; replace hb := Ext.via hb hq1 (by repeat (first | exact Ext.refl _ | refine Ext.drew ?_ | refine Ext.drewN ?_ _ | refine Ext.alloc ?_ _)); clear hq1 hr1; obtain ⟨hc, hf, hz⟩ := hb.facts)))
    obtain ⟨k0, k1⟩ := res_cells (v0 := .int .i64 0) (v1 := .slice none 0 0) (HU0.out _ hb) (HU1.out _ hb)
    have HX9 := Lib.hid (hB0.out.trans hb)
    clear hc hf hz
    exact bodyPost_ret (v := .tuple #[.agg #[.int .i64 0, .slice none 0 0], .int .i64 2]) (by simp [results, Tryz.f26, go_sem, k0, k1]) rfl (ChR.no rfl (Below.setCell (Below.setCell HX9.out (by simp) _) (by simp) _))
  by_cases hx : (m : Int) < j
  · obtain ⟨e1, e2, e3⟩ := part_2 (i := i) (j := j) h1 (.inr (.inr (by rw [HLA.out]; exact hx)))
    rw [e1, e2, e3]
    have HC1 := Lib.hid h1
    clear h1 e1 e2 e3
    go_enter Tryz.func26, Tryz.ntmps26
    go_wp2_with (first | (go_at_call 17; ((with_reducible refine (ccounts_any s A m c la _ (HA.out.ext (hB0.out.trans (hb.trans (by repeat (first | exact Ext.refl _ | refine Ext.drew ?_ | refine Ext.drewN ?_ _ | refine Ext.alloc ?_ _)))))).mono ?_); intro e w1 hr1; obtain ⟨A1, n1, c1, rfl, hq1⟩ := hr1.out_no; rw [HC1.out]; replace hb := Ext.via hb hq1 (by repeat (first | exact Ext.refl _ | refine Ext.drew ?_ | refine Ext.drewN ?_ _ | refine Ext.alloc ?_ _)); clear hq1 hr1; obtain ⟨hc, hf, hz⟩ := hb.facts)))
    obtain ⟨k0, k1⟩ := res_cells (v0 := .int .i64 0) (v1 := .slice none 0 0) (HU0.out _ hb) (HU1.out _ hb)
    have HX9 := Lib.hid (hB0.out.trans hb)
    clear hc hf hz
    exact bodyPost_ret (v := .tuple #[.agg #[.int .i64 0, .slice none 0 0], .int .i64 2]) (by simp [results, Tryz.f26, go_sem, k0, k1]) rfl (ChR.no rfl (Below.setCell (Below.setCell HX9.out (by simp) _) (by simp) _))
  obtain ⟨k, rfl⟩ : ∃ k : Nat, i = (k : Int) := ⟨i.toNat, by omega⟩
  obtain ⟨q, rfl⟩ : ∃ q : Nat, j = (q : Int) := ⟨j.toNat, by omega⟩
  have hkq : k ≤ q := by omega
  have hqm : q ≤ m := by omega
  obtain ⟨e1, e2, e3⟩ := part_0 (k := k) (q := q) h1 hkq (by rw [HLA.out]; exact hqm)
  rw [e1, e2, e3]
  have HC1 := Lib.hid h1
  have HKM := Lib.hid (show k ≤ la.length by rw [HLA.out]; omega)
  have hm9 : m ≤ 100 := by rw [← HLA.out]; exact (chk_cells h1).1
  have HCA := Lib.hid (show ∀ k, k < m → (la.getD k ro0).cells.length ≤ 1000 by rw [← HLA.out]; exact (chk_cells h1).2)
  have q0 : (0 : Int) ≤ (k : Int) := by omega
  have q1 : (k : Int) ≤ (q : Int) := by omega
  have q2 : (q : Int) ≤ (m : Int) := by omega
  have q3 : (q : Int) ≤ (c : Int) := by omega
  have q4 : (k : Int) < (la.length : Int) + 1 := by have := HKM.out; omega
  clear h1 e1 e2 e3
  have HPT := Lib.hid (HA.out.part hkq hqm)
  have HAT := Lib.hid (show k < q → ∃ b off, A = some ⟨b, off, none⟩ from fun h => by
    obtain ⟨b, off, _, _, _, e, _⟩ := HA.out.at_ (k := k) (by omega)
    exact ⟨b, off, e⟩)
  by_cases hck : c = k
  case pos =>
      have hce : ∀ (x y : Option Addr), (if c = k then x else y) = x := fun x y => if_pos hck
      have HQK := Lib.hid (show q - k = 0 by omega)
      clear hck
      go_enter Tryz.func26, Tryz.ntmps26
      go_wp2_with (first | (go_at_call 17; ((with_reducible refine (ccounts_any s A m c la _ (HA.out.ext (hB0.out.trans (hb.trans (by repeat (first | exact Ext.refl _ | refine Ext.drew ?_ | refine Ext.drewN ?_ _ | refine Ext.alloc ?_ _)))))).mono ?_); intro e w1 hr1; obtain ⟨A1, n1, c1, rfl, hq1, hi1, hfr1⟩ := hr1.out_ok HC1.out; have HE1 := Lib.hid (show Ext ((w.alloc (.cells #[.int .i64 s, .slice A m c] 24)).alloc (.cells #[.int .i64 0, .slice none 0 0] 24)) w1 from hb.trans (Ext.trans (by repeat (first | exact Ext.refl _ | refine Ext.drew ?_ | refine Ext.drewN ?_ _ | refine Ext.alloc ?_ _)) hq1)); replace hb := Ext.via hb hq1 (by repeat (first | exact Ext.refl _ | refine Ext.drew ?_ | refine Ext.drewN ?_ _ | refine Ext.alloc ?_ _)); clear hq1 hr1; obtain ⟨hc, hf, hz⟩ := hb.facts; obtain ⟨rfl, b1, o1, rfl, hb1, hl1⟩ := cnt_at hi1 HKM.out; have hfr2 := hfr1 _ _ rfl; clear hi1 hfr1)))
      obtain ⟨hc, hf, hz⟩ := Ext.facts hb
      have m1 : w1.cell? ⟨w.heap.size, 1, none⟩ = some (.slice A m c) := by rw [hc _ _ (by simp only [World.size_alloc]; omega)]; simp [go_sem]
      have k0 := HU0.out _ hb
      have k1 := HU1.out _ hb
      have k2 : w1.frozen? ⟨w.heap.size + 1, 0, none⟩ = false := by rw [hf _ _ (by simp only [World.size_alloc]; omega)]; simp [go_sem]
      have k3 : w1.frozen? ⟨w.heap.size + 1, 1, none⟩ = false := by rw [hf _ _ (by simp only [World.size_alloc]; omega)]; simp [go_sem]
      have hz9 : w.heap.size + 1 + 1 ≤ w1.heap.size := by have h9 := Below.size hb; simp only [World.size_alloc] at h9; omega
      have z0 : w.heap.size < w1.heap.size := by omega
      have z2 : w.heap.size + 1 < w1.heap.size := by omega
      simp only [World.size_alloc] at hfr2
      have z3 : ¬ (b1 = w.heap.size + 1) := by omega
      have z4 : ¬ (w.heap.size + 1 = b1) := by omega
      have HBQ := Lib.hid hb
      clear hc hf hz hlt2
      go_region_held3 (fun w' => w'.cell? ⟨w.heap.size, 1, none⟩ = some (.slice A m c) ∧ w'.cell? ⟨b1, o1 + k, none⟩ = some (.int .i64 ((cntC s la).getD k 0))) (go_keep)
        (first
          | (go_at_call 49; go_loud (((with_reducible refine (ctwin_any _ (q - k) _ ((la.drop k).take (q - k)) _ ((HPT.out _ (fun h => by have := HQK.out; exact absurd h (by omega))).ext (hB0.out.trans (hb.trans (by repeat (first | exact Ext.refl _ | refine Ext.drew ?_ | refine Ext.drewN ?_ _ | refine Ext.alloc ?_ _))))) (by omega) (part_cells HCA.out hqm)).mono ?_); rintro e w4 ⟨V1, rfl, hq4, ho4⟩; have HE4 := Lib.hid (show Ext w1 w4 from Ext.trans (by repeat (first | exact Ext.refl _ | refine Ext.drew ?_ | refine Ext.drewN ?_ _ | refine Ext.alloc ?_ _)) hq4); replace hb := HBQ.out.trans HE4.out; clear hq4; obtain ⟨hc, hf, hz⟩ := HE4.out.facts; obtain ⟨A6, c6, rfl, hr6⟩ := own_rws (show OwnR w4 w1.heap.size 46 V1 _ _ from ho4) (by rw [List.length_take]; omega); rw [List.length_take, List.length_drop] at hr6; have HR6 := Lib.hid hr6; clear hr6 ho4))))
      go_wp2
      obtain ⟨y0, y1⟩ := res_cells (v0 := .int .i64 ((cntC s la)[k]?.getD 0)) (v1 := .slice A6 (min (q - k) (la.length - k)) c6) (HU0.out w4 hb) (HU1.out w4 hb)
      have HX9 := Lib.hid (hB0.out.trans hb)
      have HR9 := Lib.hid (res_rws (g := w.heap.size + 1) (v0 := .int .i64 ((cntC s la)[k]?.getD 0)) (v1 := .slice A6 (min (q - k) (la.length - k)) c6) HR6.out z2 (by omega : w.heap.size ≤ w1.heap.size))
      exact bodyPost_ret (v := .tuple #[.agg #[.int .i64 ((cntC s la)[k]?.getD 0), .slice A6 (min (q - k) (la.length - k)) c6], .int .i64 0]) (by simp [results, Tryz.f26, go_sem, y0, y1]) rfl ⟨A6, _, c6, by rw [List.getD_eq_getElem?_getD], Below.setCell (Below.setCell HX9.out (by simp) _) (by simp) _, HR9.out⟩
  go_enter Tryz.func26, Tryz.ntmps26
  go_wp2_with (first | (go_at_call 17; ((with_reducible refine (ccounts_any s A m c la _ (HA.out.ext (hB0.out.trans (hb.trans (by repeat (first | exact Ext.refl _ | refine Ext.drew ?_ | refine Ext.drewN ?_ _ | refine Ext.alloc ?_ _)))))).mono ?_); intro e w1 hr1; obtain ⟨A1, n1, c1, rfl, hq1, hi1, hfr1⟩ := hr1.out_ok HC1.out; have HE1 := Lib.hid (show Ext ((w.alloc (.cells #[.int .i64 s, .slice A m c] 24)).alloc (.cells #[.int .i64 0, .slice none 0 0] 24)) w1 from hb.trans (Ext.trans (by repeat (first | exact Ext.refl _ | refine Ext.drew ?_ | refine Ext.drewN ?_ _ | refine Ext.alloc ?_ _)) hq1)); replace hb := Ext.via hb hq1 (by repeat (first | exact Ext.refl _ | refine Ext.drew ?_ | refine Ext.drewN ?_ _ | refine Ext.alloc ?_ _)); clear hq1 hr1; obtain ⟨hc, hf, hz⟩ := hb.facts; obtain ⟨rfl, b1, o1, rfl, hb1, hl1⟩ := cnt_at hi1 HKM.out; have hfr2 := hfr1 _ _ rfl; clear hi1 hfr1)))
  obtain ⟨hc, hf, hz⟩ := Ext.facts hb
  have m1 : w1.cell? ⟨w.heap.size, 1, none⟩ = some (.slice A m c) := by rw [hc _ _ (by simp only [World.size_alloc]; omega)]; simp [go_sem]
  have k0 := HU0.out _ hb
  have k1 := HU1.out _ hb
  have k2 : w1.frozen? ⟨w.heap.size + 1, 0, none⟩ = false := by rw [hf _ _ (by simp only [World.size_alloc]; omega)]; simp [go_sem]
  have k3 : w1.frozen? ⟨w.heap.size + 1, 1, none⟩ = false := by rw [hf _ _ (by simp only [World.size_alloc]; omega)]; simp [go_sem]
  have hz9 : w.heap.size + 1 + 1 ≤ w1.heap.size := by have h9 := Below.size hb; simp only [World.size_alloc] at h9; omega
  have z0 : w.heap.size < w1.heap.size := by omega
  have z2 : w.heap.size + 1 < w1.heap.size := by omega
  simp only [World.size_alloc] at hfr2
  have z3 : ¬ (b1 = w.heap.size + 1) := by omega
  have z4 : ¬ (w.heap.size + 1 = b1) := by omega
  have HBQ := Lib.hid hb
  clear hc hf hz hlt2
  go_region_held3 (fun w' => w'.cell? ⟨w.heap.size, 1, none⟩ = some (.slice A m c) ∧ w'.cell? ⟨b1, o1 + k, none⟩ = some (.int .i64 ((cntC s la).getD k 0))) (go_keep)
    (first
      | (go_at_call 49; go_loud (((with_reducible refine (ctwin_any _ (q - k) _ ((la.drop k).take (q - k)) _ ((HPT.out _ (fun h => by obtain ⟨b, off, e⟩ := HAT.out h; exact ⟨b, off, e, by rw [e]; simp [Addr.add]⟩)).ext (hB0.out.trans (hb.trans (by repeat (first | exact Ext.refl _ | refine Ext.drew ?_ | refine Ext.drewN ?_ _ | refine Ext.alloc ?_ _))))) (by omega) (part_cells HCA.out hqm)).mono ?_); rintro e w4 ⟨V1, rfl, hq4, ho4⟩; have HE4 := Lib.hid (show Ext w1 w4 from Ext.trans (by repeat (first | exact Ext.refl _ | refine Ext.drew ?_ | refine Ext.drewN ?_ _ | refine Ext.alloc ?_ _)) hq4); replace hb := HBQ.out.trans HE4.out; clear hq4; obtain ⟨hc, hf, hz⟩ := HE4.out.facts; obtain ⟨A6, c6, rfl, hr6⟩ := own_rws (show OwnR w4 w1.heap.size 46 V1 _ _ from ho4) (by rw [List.length_take]; omega); rw [List.length_take, List.length_drop] at hr6; have HR6 := Lib.hid hr6; clear hr6 ho4))))
  go_wp2
  obtain ⟨y0, y1⟩ := res_cells (v0 := .int .i64 ((cntC s la)[k]?.getD 0)) (v1 := .slice A6 (min (q - k) (la.length - k)) c6) (HU0.out w4 hb) (HU1.out w4 hb)
  have HX9 := Lib.hid (hB0.out.trans hb)
  have HR9 := Lib.hid (res_rws (g := w.heap.size + 1) (v0 := .int .i64 ((cntC s la)[k]?.getD 0)) (v1 := .slice A6 (min (q - k) (la.length - k)) c6) HR6.out z2 (by omega : w.heap.size ≤ w1.heap.size))
  exact bodyPost_ret (v := .tuple #[.agg #[.int .i64 ((cntC s la)[k]?.getD 0), .slice A6 (min (q - k) (la.length - k)) c6], .int .i64 0]) (by simp [results, Tryz.f26, go_sem, y0, y1]) rfl ⟨A6, _, c6, by rw [List.getD_eq_getElem?_getD], Below.setCell (Below.setCell HX9.out (by simp) _) (by simp) _, HR9.out⟩
end Go.Proofs.YtjjhoonkooihjaaGreatDoor
/- The sides of rows turned in memory: plain lemmas for Flip. -/
namespace Go.Proofs.YtjjhoonkooihjaaGreatDoor
set_option maxRecDepth 100000
open Go.RowKit Go.ChangeShapes Go.WideShapes Go.Joins
def flR (x : Raw) : Raw := ⟨!x.b, x.A, x.n, x.c⟩
def flRo (r : Ro) : Ro := ⟨!r.back, r.cells⟩
/-- the other side of rows -/
def flipL (l : List Ro) : List Ro := l.map flRo
theorem flip_len (l : List Ro) : (flipL l).length = l.length := by simp [flipL]
/-- the first k are turned -/
def fkR (k : Nat) (l : List Raw) : List Raw := (l.take k).map flR ++ l.drop k
theorem fk_zero (l : List Raw) : fkR 0 l = l := by simp [fkR]
theorem fk_all (l : List Raw) : fkR l.length l = l.map flR := by simp [fkR]
theorem fk_len (k : Nat) (l : List Raw) : (fkR k l).length = l.length := by simp [fkR]; omega
theorem fk_get {k : Nat} {l : List Raw} (j : Nat) : (fkR k l)[j]? = if j < k then (l[j]?).map flR else l[j]? := by
  unfold fkR
  rcases Nat.lt_or_ge k l.length with hk | hk
  · rw [List.getElem?_append]
    simp only [List.length_map, List.length_take, Nat.min_eq_left (Nat.le_of_lt hk), List.getElem?_map, List.getElem?_take, List.getElem?_drop]
    by_cases h : j < k
    · simp [h]
    · simp only [h, if_false]; congr 1; omega
  · rw [List.take_of_length_le hk, List.drop_of_length_le hk, List.append_nil, List.getElem?_map]
    split
    · rfl
    · rename_i h
      rw [List.getElem?_eq_none (by omega)]
      rfl
theorem fk_at {k : Nat} {l : List Raw} (h : k < l.length) : (fkR k l)[k]? = some (l.getD k raw0) := by
  rw [fk_get, if_neg (Nat.lt_irrefl _), getRaw h]
/-- one more is turned -/
theorem vec_flip {w : World} {g off m k : Nat} {l : List Raw} (h : Vec shRaw w (some ⟨g, off, none⟩) m (fkR k l)) (hk : k < m) :
    Vec shRaw (w.setCell ⟨g, off + k * 2, none⟩ (.bool (!(l.getD k raw0).b))) (some ⟨g, off, none⟩) m (fkR (k + 1) l) := by
  have hl : l.length = m := by rw [← fk_len k l]; exact h.1
  obtain ⟨b, off', e, hlt, hc⟩ := h.2 (by omega)
  cases e
  refine ⟨by rw [fk_len]; exact hl, fun _ => ⟨g, off, rfl, by simpa using hlt, fun j x hx i u hu => ?_⟩⟩
  have hi : i < 2 := by
    rcases Nat.lt_or_ge i 2 with h9 | h9
    · exact h9
    · rw [List.getElem?_eq_none (by simp [shRaw]; omega)] at hu; cases hu
  rw [fk_get] at hx
  by_cases hj : j = k
  · subst hj
    rw [if_pos (by omega), getRaw (by omega)] at hx
    cases hx
    have h0 := hc j _ (fk_at (by omega))
    rcases i with _ | _ | i
    · have hu2 : u = .bool (!(l.getD j raw0).b) := by simp [shRaw, flR] at hu; rw [← hu, List.getD_eq_getElem?_getD]
      subst hu2
      exact World.cell?_setCell_same _ _ _ (h0 0 _ rfl)
    · have hu2 : u = .slice (l.getD j raw0).A (l.getD j raw0).n (l.getD j raw0).c := by simp [shRaw, flR] at hu; rw [← hu, List.getD_eq_getElem?_getD]
      subst hu2
      refine (World.cell?_setCell_other _ _ _ _ (by simp [shRaw])).trans (h0 1 _ rfl)
    · omega
  · refine (World.cell?_setCell_other _ _ _ _ (by first | (simp [shRaw]; done) | (simp [shRaw]; omega))).trans (hc j x ?_ i u hu)
    rw [fk_get]
    by_cases h1 : j < k
    · rw [if_pos h1]; rwa [if_pos (by omega)] at hx
    · rw [if_neg h1]; rwa [if_neg (by omega)] at hx
theorem vec_side {w : World} {g off m k : Nat} {l : List Raw} (h : Vec shRaw w (some ⟨g, off, none⟩) m (fkR k l)) (hk : k < m) : w.cell? ⟨g, off + k * 2, none⟩ = some (.bool (l.getD k raw0).b) := by
  have hl : l.length = m := by rw [← fk_len k l]; exact h.1
  obtain ⟨b, off', e, hlt, hc⟩ := h.2 (by omega)
  cases e
  exact hc k _ (fk_at (by omega)) 0 _ rfl
/-- between two rounds: only the rows' own block has been written -/
def FlI (wl : World) (A : Option Addr) (m : Nat) (raws : List Raw) (k : Nat) (w : World) : Prop :=
  w.heap.size = wl.heap.size ∧ (∀ b o, (∀ g off, A = some ⟨g, off, none⟩ → b ≠ g) → w.cell? ⟨b, o, none⟩ = wl.cell? ⟨b, o, none⟩) ∧ (∀ p, w.frozen? p = wl.frozen? p) ∧ Vec shRaw w A m (fkR k raws)
theorem FlI.start {wl : World} {A : Option Addr} {m : Nat} {raws : List Raw} (h : Vec shRaw wl A m raws) : FlI wl A m raws 0 wl := ⟨rfl, fun _ _ _ => rfl, fun _ => rfl, by rw [fk_zero]; exact h⟩
theorem FlI.step {wl w : World} {g off m k : Nat} {raws : List Raw} (h : FlI wl (some ⟨g, off, none⟩) m raws k w) (hk : k < m) : FlI wl (some ⟨g, off, none⟩) m raws (k + 1) (w.setCell ⟨g, off + k * 2, none⟩ (.bool (!(raws.getD k raw0).b))) := by
  obtain ⟨h1, h2, h3, h4⟩ := h
  refine ⟨by simp [h1], fun b o hb => ?_, fun p => (World.frozen?_setCell _ _ _ _).trans (h3 p), vec_flip h4 hk⟩
  rw [World.cell?_setCell_other _ ⟨g, off + k * 2, none⟩ ⟨b, o, none⟩ _ (fun e => by cases e; exact hb g off rfl rfl)]
  exact h2 b o hb
/-- what the rows read as in the end -/
theorem FlI.rws {wl w w1 : World} {e : TypeId} {A : Option Addr} {m c lo B : Nat} {raws : List Raw} {la : List Ro} (h : FlI wl A m raws m w) (hv : OwnV shRaw w1 B e (.slice A m c) m raws) (hr : RosAt w1 (Kr w1 B (.slice A m c)) raws la) (hz : w1.heap.size ≤ wl.heap.size) (hk : ∀ b o, b < w1.heap.size → B ≤ b → wl.cell? ⟨b, o, none⟩ = w1.cell? ⟨b, o, none⟩) (hlo : lo ≤ B) (hm : m ≤ maxLen) :
    Rws w (fun b => lo ≤ b) A m (flipL la) := by
  obtain ⟨h1, h2, h3, h4⟩ := h
  obtain ⟨A', c', e', hvec, hbl⟩ := own_vecB hv
  cases e'
  have hl : raws.length = m := hvec.1
  rw [← hl, fk_all, hl] at h4
  have h5 : RosAt w (fun b => lo ≤ b) raws la := hr.keep (by omega) fun b hb9 hk9 => ⟨Nat.le_trans hlo hk9.1, fun o => (h2 b o fun g off e9 e8 => hk9.2.1 (by rw [e9, e8]; rfl)).trans (hk b o hb9 hk9.1)⟩
  refine ⟨hm, raws.map flR, h4, fun hn b off e9 => Nat.le_trans hlo (hbl hn b off e9), by rw [List.length_map, flip_len]; exact h5.1, fun k hk => ?_⟩
  rw [flip_len] at hk
  obtain ⟨g1, g2, g3, g4, g5⟩ := h5.2 k hk
  have hk2 : k < raws.length := by rw [h5.1]; exact hk
  have e1 : (raws.map flR).getD k raw0 = flR (raws.getD k raw0) := by
    rw [List.getD_eq_getElem?_getD, List.getElem?_map, getRaw hk2]; rfl
  have e2 : (flipL la).getD k ro0 = flRo (la.getD k ro0) := by
    rw [flipL, List.getD_eq_getElem?_getD, List.getElem?_map, List.getElem?_eq_getElem hk, List.getD_eq_getElem?_getD, List.getElem?_eq_getElem hk]; rfl
  rw [e1, e2]
  exact ⟨by simp only [flR, flRo]; rw [g1], g2, g3, g4, g5⟩
/-- the rows' own block, when there are rows -/
theorem own_row {w : World} {B : Nat} {e : TypeId} {A : Option Addr} {m c : Nat} {raws : List Raw} (hv : OwnV shRaw w B e (.slice A m c) m raws) (hm : 0 < m) : ∃ g, A = some ⟨g, 0, none⟩ ∧ B ≤ g ∧ g < w.heap.size ∧ ∀ o, w.frozen? ⟨g, o, none⟩ = false := by
  rcases hv.2 with ⟨h, h0⟩ | ⟨g, cap, cur, h, hB, hg, _⟩
  · omega
  · cases h
    exact ⟨g, rfl, hB, (Array.getElem?_eq_some_iff.1 hg).1, fun o => by simp [World.frozen?, hg]⟩
end Go.Proofs.YtjjhoonkooihjaaGreatDoor
/- Laws of charts in plain Lean: faces use as much, other sides, parts. -/
namespace Go.Proofs.YtjjhoonkooihjaaGreatDoor
set_option maxRecDepth 100000
theorem seen_us {r : Ro} (h : allE r.cells = 0) : allE (seenL r.back r.cells) = 0 ∧ usL (seenL r.back r.cells) = if r.back then usL r.cells else usL r.cells := by
  obtain ⟨b, l⟩ := r
  cases b
  · exact ⟨h, rfl⟩
  · exact ⟨turn_all h, (turn_facts (allE_e h).2.1).2.2.1⟩
theorem seen_uses {r : Ro} (h : allE r.cells = 0) : allE (seenL r.back r.cells) = 0 ∧ usL (seenL r.back r.cells) = usL r.cells := by
  have := seen_us h
  cases hb : r.back <;> simp [hb] at this ⊢ <;> exact this
/-- a row of a valid chart: what it uses and makes -/
theorem row_cnt {s : Int} {l : List Ro} {k : Nat} (h : chkC s l = 0) (hk : k < l.length) : usL (l.getD k ro0).cells = (cntC s l).getD k 0 ∧ mkL (l.getD k ro0).cells = (cntC s l).getD (k + 1) 0 :=
  ⟨(chkGo_ok (chkC_ok h).2.2.2 k hk).2, (cnt_succ hk).symm⟩
theorem flip_go {l : List Ro} : ∀ {n : Int}, chkGo n (flipL l) = chkGo n l := by
  induction l with
  | nil => intro n; rfl
  | cons r l ih =>
    intro n
    show chkGo n (flRo r :: flipL l) = _
    rw [chkGo, chkGo]
    show (if allE r.cells ≠ 0 then allE r.cells else if usL r.cells ≠ n then 26 else chkGo (mkL r.cells) (flipL l)) = _
    rw [ih]
theorem flip_chk (s : Int) (l : List Ro) : chkC s (flipL l) = chkC s l := by
  unfold chkC
  rw [flip_len, flip_go]
theorem flip_flip (l : List Ro) : flipL (flipL l) = l := by
  unfold flipL
  rw [List.map_map]
  have e : (flRo ∘ flRo) = id := by
    funext r
    cases r
    simp [flRo]
  rw [e, List.map_id]
theorem flip_cnt (s : Int) (l : List Ro) : cntC s (flipL l) = cntC s l := by
  unfold cntC flipL
  rw [List.map_map]
  rfl
theorem flip_getD {l : List Ro} {k : Nat} (hk : k < l.length) : (flipL l).getD k ro0 = flRo (l.getD k ro0) := by
  unfold flipL
  rw [List.getD_eq_getElem?_getD, List.getElem?_map, List.getElem?_eq_getElem hk, List.getD_eq_getElem?_getD, List.getElem?_eq_getElem hk]
  rfl
/-- the face of the other side is the other side of the face -/
theorem flip_seen {r : Ro} (h : allE r.cells = 0) : seenL (flRo r).back (flRo r).cells = turnL (seenL r.back r.cells) := by
  obtain ⟨b, l⟩ := r
  cases b
  · rfl
  · exact ((turn_facts (allE_e h).2.1).2.1).symm
theorem cnt_takeN (s : Int) (l : List Ro) (k : Nat) : cntC s (l.take k) = (cntC s l).take (k + 1) := by
  simp [cntC]
theorem cnt_drop {s : Int} {l : List Ro} {k : Nat} (hk : k ≤ l.length) : cntC ((cntC s l).getD k 0) (l.drop k) = (cntC s l).drop k := by
  have hl : k < (cntC s l).length := by rw [cntC_len]; omega
  rw [List.drop_eq_getElem_cons hl]
  rw [cntC, List.getD_eq_getElem?_getD, List.getElem?_eq_getElem hl]
  simp [cntC]
theorem chkGo_part : ∀ {l : List Ro} {n : Int}, chkGo n l = 0 → ∀ k, k ≤ l.length → chkGo n (l.take k) = 0 ∧ chkGo ((cntC n l).getD k 0) (l.drop k) = 0 := by
  intro l
  induction l with
  | nil =>
    intro n h k hk
    obtain rfl : k = 0 := by simpa using hk
    exact ⟨rfl, rfl⟩
  | cons r l ih =>
    intro n h k hk
    cases k with
    | zero => exact ⟨rfl, h⟩
    | succ k =>
      rw [chkGo] at h
      split at h
      · rename_i h1
        exact absurd h h1
      · rename_i h1
        split at h
        · cases h
        · rename_i h2
          obtain ⟨g1, g2⟩ := ih h k (by simpa using hk)
          refine ⟨?_, ?_⟩
          · rw [List.take_succ_cons, chkGo, if_neg h1, if_neg h2]
            exact g1
          · rw [List.drop_succ_cons]
            have e : (cntC n (r :: l)).getD (k + 1) 0 = (cntC (mkL r.cells) l).getD k 0 := by
              rw [cntC, List.getD_cons_succ, List.map_cons]
              rfl
            rw [e]
            exact g2
theorem chk_part {s : Int} {l : List Ro} (h : chkC s l = 0) {k : Nat} (hk : k ≤ l.length) : chkC s (l.take k) = 0 ∧ chkC ((cntC s l).getD k 0) (l.drop k) = 0 := by
  obtain ⟨h1, h2, h3, h4⟩ := chkC_ok h
  obtain ⟨g1, g2⟩ := chkGo_part h4 k hk
  have g3 := cnt_bd h k hk
  refine ⟨?_, ?_⟩
  · rw [chkC, if_neg (by rw [List.length_take]; omega), if_neg (by omega), g1]
  · rw [chkC, if_neg (by rw [List.length_drop]; omega), if_neg (by omega), g2]
theorem last_take {s : Int} {l : List Ro} {k : Nat} (hk : k ≤ l.length) : lastC s (l.take k) = (cntC s l).getD k 0 := by
  unfold lastC
  rw [cnt_takeN, List.getD_eq_getElem?_getD, List.getElem?_take, if_pos (by rw [List.length_take]; omega), ← List.getD_eq_getElem?_getD, List.length_take, Nat.min_eq_left hk]
/-- the parts join to the chart -/
theorem join_parts {s : Int} {l : List Ro} (h : chkC s l = 0) {k : Nat} (hk : k ≤ l.length) : joinE s (l.take k) ((cntC s l).getD k 0) (l.drop k) = 0 := by
  obtain ⟨g1, g2⟩ := chk_part h hk
  exact join_0 g1 g2 (last_take hk) (by have := (chkC_ok h).1; rw [List.length_take, List.length_drop]; omega)
end Go.Proofs.YtjjhoonkooihjaaGreatDoor
/- Flip of charts. -/
namespace Go.Proofs.YtjjhoonkooihjaaGreatDoor
set_option maxRecDepth 100000
open Go.RowKit Go.ChangeShapes Go.WideShapes Go.Joins
set_option maxRecDepth 100000 in
set_option maxHeartbeats 8000000 in
theorem cflip_any (s : Int) (A : Option Addr) (m c : Nat) (la : List Ro) (w : World) (ha : Rws w (fun _ => True) A m la) :
    Calls Tryz.prog 21 #[.agg #[.int .i64 s, .slice A m c]] w (ChR (if chkC s la = 0 then s else 0) (if chkC s la = 0 then flipL la else []) (chkC s la) w) := by
  have HLA := Lib.hid ha.len
  have HA := Lib.hid ha
  clear ha
  have hB0 := Lib.hid (show Ext w ((w.alloc (.cells #[.int .i64 s, .slice A m c] 24)).alloc (.cells #[.int .i64 0, .slice none 0 0] 24)) from ((Ext.refl _).alloc _).alloc _)
  have hb : Ext ((w.alloc (.cells #[.int .i64 s, .slice A m c] 24)).alloc (.cells #[.int .i64 0, .slice none 0 0] 24)) ((w.alloc (.cells #[.int .i64 s, .slice A m c] 24)).alloc (.cells #[.int .i64 0, .slice none 0 0] 24)) := Ext.refl _
  have hlt2 : w.heap.size < w.heap.size + 1 + 1 := by omega
  obtain ⟨hc, hf, hz⟩ := hb.facts
  have HU0 := Lib.hid (fun (w' : World) (h : Ext ((w.alloc (.cells #[.int .i64 s, .slice A m c] 24)).alloc (.cells #[.int .i64 0, .slice none 0 0] 24)) w') => (show w'.cell? ⟨w.heap.size + 1, 0, none⟩ = some (.int .i64 0) by rw [(Ext.facts h).1 _ _ (by simp only [World.size_alloc]; omega)]; simp [go_sem]))
  have HU1 := Lib.hid (fun (w' : World) (h : Ext ((w.alloc (.cells #[.int .i64 s, .slice A m c] 24)).alloc (.cells #[.int .i64 0, .slice none 0 0] 24)) w') => (show w'.cell? ⟨w.heap.size + 1, 1, none⟩ = some (.slice none 0 0) by rw [(Ext.facts h).1 _ _ (by simp only [World.size_alloc]; omega)]; simp [go_sem]))
  by_cases h1 : chkC s la = 0
  case neg =>
    obtain ⟨x, hx⟩ : ∃ x, chkC s la = x := ⟨_, rfl⟩
    rw [hx] at h1
    rw [hx, if_neg h1, if_neg h1]
    have HC1 := Lib.hid hx
    have hne : (x != 0) = true := by simpa using h1
    clear h1 hx
    go_enter Tryz.func21, Tryz.ntmps21
    go_wp2_with (first | (go_at_call 25; ((with_reducible refine (ccheck_any s A m c la _ (HA.out.ext (hB0.out.trans (hb.trans (by repeat (first | exact Ext.refl _ | refine Ext.drew ?_ | refine Ext.drewN ?_ _ | refine Ext.alloc ?_ _)))))).mono ?_); rintro e w1 ⟨rfl, hq1⟩; rw [HC1.out]; replace hb := Ext.via hb hq1 (by repeat (first | exact Ext.refl _ | refine Ext.drew ?_ | refine Ext.drewN ?_ _ | refine Ext.alloc ?_ _)); clear hq1; obtain ⟨hc, hf, hz⟩ := hb.facts)))
    obtain ⟨k0, k1⟩ := res_cells (v0 := .int .i64 0) (v1 := .slice none 0 0) (HU0.out _ hb) (HU1.out _ hb)
    have HX9 := Lib.hid (hB0.out.trans hb)
    clear hc hf hz
    exact bodyPost_ret (v := .tuple #[.agg #[.int .i64 0, .slice none 0 0], .int .i64 x]) (by simp [results, Tryz.f21, go_sem, k0, k1]) rfl (ChR.no rfl (Below.setCell (Below.setCell HX9.out (by simp) _) (by simp) _))
  rw [if_pos h1, if_pos h1, h1]
  have HC1 := Lib.hid h1
  have hm9 : m ≤ 100 := by rw [← HLA.out]; exact (chk_cells h1).1
  have HCA := Lib.hid (show ∀ k, k < m → (la.getD k ro0).cells.length ≤ 1000 by rw [← HLA.out]; exact (chk_cells h1).2)
  clear h1
  go_enter Tryz.func21, Tryz.ntmps21
  go_wp2_with (first
    | (go_at_call 25; ((with_reducible refine (ccheck_any s A m c la _ (HA.out.ext (hB0.out.trans (hb.trans (by repeat (first | exact Ext.refl _ | refine Ext.drew ?_ | refine Ext.drewN ?_ _ | refine Ext.alloc ?_ _)))))).mono ?_); rintro e w1 ⟨rfl, hq1⟩; rw [HC1.out]; replace hb := Ext.via hb hq1 (by repeat (first | exact Ext.refl _ | refine Ext.drew ?_ | refine Ext.drewN ?_ _ | refine Ext.alloc ?_ _)); clear hq1; obtain ⟨hc, hf, hz⟩ := hb.facts; have z0 : w.heap.size < w1.heap.size := (by have := hz w.heap.size (by simp only [World.size_alloc]; omega); exact this); have z1 : w.heap.size + 1 < w1.heap.size := (by have := hz (w.heap.size + 1) (by simp only [World.size_alloc]; omega); exact this); have m0 : w1.cell? ⟨w.heap.size, 0, none⟩ = some (.int .i64 s) := (by rw [hc _ _ (by simp only [World.size_alloc]; omega)]; simp [go_sem]); have m1 : w1.cell? ⟨w.heap.size, 1, none⟩ = some (.slice A m c) := (by rw [hc _ _ (by simp only [World.size_alloc]; omega)]; simp [go_sem]); have m2 : w1.frozen? ⟨w.heap.size, 1, none⟩ = false := (by rw [hf _ _ (by simp only [World.size_alloc]; omega)]; simp [go_sem]); have m3 := HU0.out _ hb; have m4 := HU1.out _ hb; have m5 : w1.frozen? ⟨w.heap.size + 1, 0, none⟩ = false := (by rw [hf _ _ (by simp only [World.size_alloc]; omega)]; simp [go_sem]); have m6 : w1.frozen? ⟨w.heap.size + 1, 1, none⟩ = false := (by rw [hf _ _ (by simp only [World.size_alloc]; omega)]; simp [go_sem]); have HBQ := Lib.hid hb; clear hc hf hz hlt2))
    | (go_at_call 49; go_loud (((with_reducible refine (ctwin_any A m c la _ (HA.out.ext (hB0.out.trans (HBQ.out.trans (by repeat (first | exact Ext.refl _ | refine Ext.drew ?_ | refine Ext.drewN ?_ _ | refine Ext.alloc ?_ _))))) (by omega) HCA.out).mono ?_); rintro e w4 ⟨V1, rfl, hq4, ho4⟩; have HE4 := Lib.hid (show Ext w1 w4 from Ext.trans (by repeat (first | exact Ext.refl _ | refine Ext.drew ?_ | refine Ext.drewN ?_ _ | refine Ext.alloc ?_ _)) hq4); clear hq4; obtain ⟨hc, hf, hz⟩ := HE4.out.facts; have hz1 := hz _ z0; have HO4 := Lib.hid (show OwnR w4 w1.heap.size 46 V1 la.length la from ho4); clear ho4; obtain ⟨raws, hraw1, hraw2⟩ := HO4.out; obtain ⟨A4, c4, rfl, hv4, hb4⟩ := own_vecB hraw1; rw [HLA.out] at hraw1 hraw2; rw [HLA.out]; have HV4 := Lib.hid hraw1; have HRO4 := Lib.hid hraw2; clear hraw1 hraw2 hv4 hb4))))
  have n0 := (hc _ 0 z0).trans m0
  have n1 := (hc _ 1 z0).trans m1
  have n3 := (hc _ 0 z1).trans m3
  have n4 := (hc _ 1 z1).trans m4
  have n5 := (hf _ 0 z1).trans m5
  have n6 := (hf _ 1 z1).trans m6
  obtain ⟨wl, hwl⟩ : ∃ wl, w4.setCell ⟨w.heap.size, 1, none⟩ (.slice A4 m c4) = wl := ⟨_, rfl⟩
  have hzl : w4.heap.size ≤ wl.heap.size := by rw [← hwl]; simp
  have b0 : wl.cell? ⟨w.heap.size, 0, none⟩ = some (.int .i64 s) := by rw [← hwl, World.cell?_setCell_other _ _ _ _ (by simp)]; exact n0
  have b1 : wl.cell? ⟨w.heap.size, 1, none⟩ = some (.slice A4 m c4) := by rw [← hwl]; exact World.cell?_setCell_same _ _ _ n1
  have b2 : wl.cell? ⟨w.heap.size + 1, 0, none⟩ = some (.int .i64 0) := by rw [← hwl, World.cell?_setCell_other _ _ _ _ (by simp)]; exact n3
  have b3 : wl.cell? ⟨w.heap.size + 1, 1, none⟩ = some (.slice none 0 0) := by rw [← hwl, World.cell?_setCell_other _ _ _ _ (by simp)]; exact n4
  have b4 : wl.frozen? ⟨w.heap.size + 1, 0, none⟩ = false := by rw [← hwl, World.frozen?_setCell]; exact n5
  have b5 : wl.frozen? ⟨w.heap.size + 1, 1, none⟩ = false := by rw [← hwl, World.frozen?_setCell]; exact n6
  have HK := Lib.hid (show ∀ b o, b < w4.heap.size → w1.heap.size ≤ b → wl.cell? ⟨b, o, none⟩ = w4.cell? ⟨b, o, none⟩ from fun b o _ hB => by rw [← hwl, World.cell?_setCell_other _ _ _ _ (by intro e9; cases e9; omega)])
  have HKF := Lib.hid (show ∀ g o, g < w4.heap.size → w1.heap.size ≤ g → wl.frozen? ⟨g, o, none⟩ = w4.frozen? ⟨g, o, none⟩ from fun g o _ _ => by rw [← hwl, World.frozen?_setCell])
  have HNP := Lib.hid (show ∀ b, (b = w.heap.size ∨ b = w.heap.size + 1) → ∀ g off, A4 = some ⟨g, off, none⟩ → b ≠ g from fun b hb9 g off e9 => by
    have h9 := HO4.out.blk g (by rw [e9]; rfl)
    omega)
  have HWE := Lib.hid (show Ext w wl by rw [← hwl]; exact Below.setCell (hB0.out.trans (HBQ.out.trans HE4.out)) (by simp) _)
  rw [hwl]
  clear hwl n0 n1 n3 n4 n5 n6 m0 m1 m2 m3 m4 m5 m6 hc hf hz hz1
  have HVL := Lib.hid (show Vec shRaw wl A4 m raws from (own_vecB HV4.out).elim fun A' h => h.elim fun c' h => by
    obtain ⟨e9, hv9, hbl9⟩ := h
    cases e9
    exact hv9.keepK (K := fun b => w1.heap.size ≤ b) hbl9 hzl (fun b hb9 hB o => HK.out b o hb9 hB))
  go_loopw [19] (fun i wr => ∃ (k : Nat), i = .int .i64 k ∧ k ≤ m ∧ Hid (FlI wl A4 m raws k wr) ∧ Hid (Ext w wr)) (fun i _ => m - (intOf i).toNat)
  case atStart => exact ⟨0, rfl, Nat.zero_le _, Lib.hid (FlI.start HVL.out), HWE⟩
  case round =>
    obtain ⟨k, rfl, hk, HI, HXE⟩ := hrel
    have r0 : wr.cell? ⟨w.heap.size, 0, none⟩ = some (.int .i64 s) := (HI.out.2.1 _ _ (HNP.out _ (.inl rfl))).trans b0
    have r1 : wr.cell? ⟨w.heap.size, 1, none⟩ = some (.slice A4 m c4) := (HI.out.2.1 _ _ (HNP.out _ (.inl rfl))).trans b1
    by_cases hlt : k < m
    · obtain ⟨g, rfl, hgB, hgl, hgf⟩ := own_row HV4.out (by omega)
      have v0 := vec_side HI.out.2.2.2 hlt
      have v1 : wr.frozen? ⟨g, 0 + k * 2, none⟩ = false := (HI.out.2.2.1 _).trans ((HKF.out g _ hgl hgB).trans (hgf _))
      simp only [Nat.zero_add] at v0 v1
      have q0 : (0 : Int) ≤ (k : Int) := by omega
      have q1 : (k : Int) < (m : Int) := by omega
      have HS := Lib.hid (HI.out.step hlt)
      have HSX := Lib.hid (show Ext w (wr.setCell ⟨g, 0 + k * 2, none⟩ (.bool (!(raws.getD k raw0).b))) from Below.setCell HXE.out (by simp; omega) _)
      generalize (raws.getD k raw0).b = bb at *
      go_wp2
      go_region
      all_goals go_wp2
      all_goals go_roundw
      all_goals first
        | (simp [intOf]; omega)
        | exact ⟨k + 1, by go_num, by omega, Lib.hid (by have h9 := HS.out; simp only [Nat.zero_add] at h9; exact h9), Lib.hid (by have h9 := HSX.out; simp only [Nat.zero_add] at h9; first | exact h9 | exact Ext.drew h9)⟩
    · obtain rfl : k = m := by omega
      have y0 : wr.cell? ⟨w.heap.size + 1, 0, none⟩ = some (.int .i64 0) := (HI.out.2.1 _ _ (HNP.out _ (.inr rfl))).trans b2
      have y1 : wr.cell? ⟨w.heap.size + 1, 1, none⟩ = some (.slice none 0 0) := (HI.out.2.1 _ _ (HNP.out _ (.inr rfl))).trans b3
      have y2 : wr.frozen? ⟨w.heap.size + 1, 0, none⟩ = false := (HI.out.2.2.1 _).trans b4
      have y3 : wr.frozen? ⟨w.heap.size + 1, 1, none⟩ = false := (HI.out.2.2.1 _).trans b5
      have HRF := Lib.hid (show Rws wr (fun b => w1.heap.size ≤ b) A4 k (flipL la) from FlI.rws HI.out HV4.out HRO4.out hzl HK.out (Nat.le_refl _) (by unfold maxLen; omega))
      go_wp2
      obtain ⟨x0, x1⟩ := res_cells (v0 := .int .i64 s) (v1 := .slice A4 k c4) y0 y1
      have HR9 := Lib.hid (res_rws (g := w.heap.size + 1) (v0 := .int .i64 s) (v1 := .slice A4 k c4) HRF.out (by omega) (by omega : w.heap.size ≤ w1.heap.size))
      exact bodyPost_ret (v := .tuple #[.agg #[.int .i64 s, .slice A4 k c4], .int .i64 0]) (by simp [results, Tryz.f21, go_sem, x0, x1]) rfl ⟨A4, _, c4, rfl, Below.setCell (Below.setCell HXE.out (by simp) _) (by simp) _, HR9.out⟩
end Go.Proofs.YtjjhoonkooihjaaGreatDoor
/- The chapter's examples. -/
namespace Go.Proofs.YtjjhoonkooihjaaGreatDoor
set_option maxRecDepth 100000
set_option maxRecDepth 100000
open Go.RowKit Go.ChangeShapes Go.WideShapes Go.Joins
theorem len_e {l : List St} {n : Nat} {w : World} {A : Option Addr} (hv : Vec shSt w A n l) (ha : allE l = 0) : n ≤ maxLen := by
  have := hv.1
  have := (allE_e ha).1
  unfold maxLen
  omega
theorem stext_c {n c : Nat} {A : Option Addr} {l : List St} {T : List UInt8} {w : World} (hv : Vec shSt w A n l) (ha : allE l = 0) (ht : textL l = T) (hg : Glob w) :
    Calls Tryz.prog 31 #[.slice A n c] w fun e w' => e = .returned (.tuple #[.string ⟨T.toArray⟩, .int .i64 0]) ∧ Ext w w' := by
  have h := stext_any n c A l w hv (len_e hv ha) (bytes_ok (allE_e ha).2.1) hg
  rw [textG, if_pos ha, ht, ha] at h
  exact h
theorem uses_c {n c : Nat} {A : Option Addr} {l : List St} {U : Int} {w : World} (hv : Vec shSt w A n l) (ha : allE l = 0) (hu : usL l = U) :
    Calls Tryz.prog 18 #[.slice A n c] w fun e w' => e = .returned (.tuple #[.int .i64 U, .int .i64 0]) ∧ Ext w w' := by
  have h := uses_any n c A l w hv (len_e hv ha) (bytes_ok (allE_e ha).2.1)
  rw [usG, if_pos ha, hu, ha] at h
  exact h
theorem makes_c {n c : Nat} {A : Option Addr} {l : List St} {U : Int} {w : World} (hv : Vec shSt w A n l) (ha : allE l = 0) (hu : mkL l = U) :
    Calls Tryz.prog 19 #[.slice A n c] w fun e w' => e = .returned (.tuple #[.int .i64 U, .int .i64 0]) ∧ Ext w w' := by
  have h := makes_any n c A l w hv (len_e hv ha) (bytes_ok (allE_e ha).2.1)
  rw [mkG, if_pos ha, hu, ha] at h
  exact h
theorem turn_c {n c : Nat} {A : Option Addr} {l L : List St} {w : World} (m : Nat) (hv : Vec shSt w A n l) (ha : allE l = 0) (hu : turnL l = L) (hm : L.length = m) :
    Calls Tryz.prog 23 #[.slice A n c] w fun e w' => ∃ (A' : Option Addr) (c' : Nat), e = .returned (.tuple #[.slice A' m c', .int .i64 0]) ∧ Ext w w' ∧ Vec shSt w' A' m L := by
  subst hu
  subst hm
  refine (turn_ok n c A l w hv ha).mono ?_
  rintro e w' ⟨A', n', c', rfl, h1, h2⟩
  obtain rfl := h2.1
  exact ⟨A', c', rfl, h1, h2⟩
theorem parse_c {s : List UInt8} {l : List St} {w : World} (m : Nat) (h : parseL s = some l) (hm : l.length = m) (hg : Glob w) :
    Calls Tryz.prog 39 #[.string ⟨s.toArray⟩] w fun e w' => ∃ (A : Option Addr) (c : Nat), e = .returned (.tuple #[.slice A m c, .int .i64 0]) ∧ Ext w w' ∧ OwnV shSt w' w.heap.size 54 (.slice A m c) m l := by
  have hs := (parse_iff.1 h).1
  subst hm
  refine (parse_any s (by omega) w hg).mono ?_
  rintro e w' ⟨v, rfl, h1, h2⟩
  obtain ⟨e1, e2⟩ := parse_some h
  rw [e2] at h1
  rw [e1]
  obtain ⟨A, c, rfl, -⟩ := own_vec h1
  exact ⟨A, c, rfl, h2, h1⟩
theorem parse_x {s : List UInt8} {w : World} (h : parseL s = none) (hs : s.length ≤ 1000000000) (hg : Glob w) :
    Calls Tryz.prog 39 #[.string ⟨s.toArray⟩] w fun e w' => ∃ (A : Option Addr) (c : Nat), e = .returned (.tuple #[.slice A 0 c, .int .i64 12]) ∧ Ext w w' := by
  refine (parse_any s hs w hg).mono ?_
  rintro e w' ⟨v, rfl, h1, h2⟩
  obtain ⟨e1, e2⟩ := parse_none h
  rw [e2] at h1
  rw [e1]
  obtain ⟨A, c, rfl, -⟩ := own_vec h1
  exact ⟨A, c, rfl, h2⟩
def exL : List St := [⟨3, false, 2, 0⟩, ⟨2, false, 0, 0⟩, ⟨1, true, 0, 0⟩, ⟨1, true, 0, 0⟩, ⟨1, true, 0, 0⟩]
end Go.Proofs.YtjjhoonkooihjaaGreatDoor
/- Contracts of the functions of charts with their values named, and the chapter's example. -/
namespace Go.Proofs.YtjjhoonkooihjaaGreatDoor
set_option maxRecDepth 100000
set_option maxRecDepth 100000
open Go.RowKit Go.ChangeShapes Go.WideShapes Go.Joins
/-- a call has returned a chart with these rows and no error -/
def ChY (s : Int) (m : Nat) (l : List Ro) (w : World) (e : Ending) (w' : World) : Prop := ∃ (A : Option Addr) (c : Nat), e = .returned (.tuple #[.agg #[.int .i64 s, .slice A m c], .int .i64 0]) ∧ Ext w w' ∧ Rws w' (fun b => w.heap.size ≤ b) A m l ∧ m ≤ c
theorem cparse_c {t : List UInt8} {s : Int} {l : List Ro} {w : World} (m : Nat) (h : chartP t = some (s, l)) (hm : l.length = m) (hg : Glob w) :
    Calls Tryz.prog 12 #[.string ⟨t.toArray⟩] w fun e w' => ∃ (A : Option Addr) (c : Nat), e = .returned (.tuple #[.agg #[.int .i64 s, .slice A m c], .int .i64 0]) ∧ Ext w w' ∧ Rws w' (fun b => w.heap.size ≤ b) A m l := by
  have ht := (chart_iff.1 h).1
  refine (cparse_any t (by omega) w hg).mono ?_
  rintro e w' ⟨A, n, c, rfl, h1, h2⟩
  unfold cpS cpE at *
  unfold cpL at h2
  rw [h] at h2 ⊢
  obtain rfl : n = m := by rw [← h2.len]; exact hm
  exact ⟨A, c, rfl, h1, h2⟩
theorem cparse_x {t : List UInt8} {w : World} (h : chartP t = none) (ht : t.length ≤ 1000000) (hg : Glob w) :
    Calls Tryz.prog 12 #[.string ⟨t.toArray⟩] w fun e w' => ∃ (A : Option Addr) (c : Nat), e = .returned (.tuple #[.agg #[.int .i64 0, .slice A 0 c], .int .i64 12]) ∧ Ext w w' := by
  refine (cparse_any t (by omega) w hg).mono ?_
  rintro e w' ⟨A, n, c, rfl, h1, h2⟩
  unfold cpS cpE at *
  unfold cpL at h2
  rw [h] at h2 ⊢
  obtain rfl : n = 0 := h2.len.symm
  exact ⟨A, c, rfl, h1⟩
theorem ccounts_c {s : Int} {l : List Ro} {N : List Int} {A : Option Addr} {m c : Nat} {w : World} (k : Nat) (hr : Rws w (fun _ => True) A m l) (h0 : chkC s l = 0) (hc : cntC s l = N) (hk : l.length + 1 = k) :
    Calls Tryz.prog 17 #[.agg #[.int .i64 s, .slice A m c]] w fun e w' => ∃ (A' : Option Addr) (c' : Nat), e = .returned (.tuple #[.slice A' k c', .int .i64 0]) ∧ Ext w w' ∧ Ints w' A' k N := by
  refine (ccounts_any s A m c l w hr).mono ?_
  intro e w' h
  obtain ⟨A', n', c', rfl, h1, h2, -⟩ := h.out_ok h0
  subst hc
  obtain rfl : n' = k := by rw [← h2.1, cntC_len]; exact hk
  exact ⟨A', c', rfl, h1, h2⟩
theorem cface_c {s : Int} {l : List Ro} {F : List St} {A : Option Addr} {m c : Nat} {w : World} (j : Int) (i k : Nat) (hj : j = (i : Int)) (hr : Rws w (fun _ => True) A m l) (h0 : chkC s l = 0) (hi : i < l.length) (hF : seenL (l.getD i ro0).back (l.getD i ro0).cells = F) (hk : F.length = k) :
    Calls Tryz.prog 20 #[.agg #[.int .i64 s, .slice A m c], .int .i64 j] w fun e w' => ∃ (A' : Option Addr) (c' : Nat), e = .returned (.tuple #[.slice A' k c', .int .i64 0]) ∧ Ext w w' ∧ Vec shSt w' A' k F := by
  subst hj
  refine (cface_any s i A m c l w hr).mono ?_
  rintro e w' ⟨A', n', c', rfl, h1, h2⟩
  obtain ⟨e1, e2⟩ := face_0 h0 hi
  rw [e1]
  rw [e2, hF] at h2
  obtain rfl : n' = k := by rw [← h2.1]; exact hk
  exact ⟨A', c', rfl, h1, h2⟩
theorem cflip_c {s : Int} {l L : List Ro} {A : Option Addr} {m c : Nat} {w : World} (hr : Rws w (fun _ => True) A m l) (h0 : chkC s l = 0) (hL : flipL l = L) :
    Calls Tryz.prog 21 #[.agg #[.int .i64 s, .slice A m c]] w fun e w' => ∃ (A' : Option Addr) (c' : Nat), e = .returned (.tuple #[.agg #[.int .i64 s, .slice A' m c'], .int .i64 0]) ∧ Ext w w' ∧ Rws w' (fun b => w.heap.size ≤ b) A' m L := by
  refine (cflip_any s A m c l w hr).mono ?_
  rintro e w' ⟨A', n', c', rfl, h1, h2⟩
  rw [if_pos h0] at h2 ⊢
  rw [h0]
  obtain rfl : n' = m := by rw [← h2.len, flip_len]; exact hr.len
  rw [hL] at h2
  exact ⟨A', c', rfl, h1, h2⟩
theorem ctext_c {s : Int} {l : List Ro} {T : List UInt8} {A : Option Addr} {m c : Nat} {w : World} (hr : Rws w (fun _ => True) A m l) (h0 : ctextE s l = 0) (hT : ctextV s l = T) (hg : Glob w) :
    Calls Tryz.prog 10 #[.agg #[.int .i64 s, .slice A m c]] w fun e w' => e = .returned (.tuple #[.string ⟨T.toArray⟩, .int .i64 0]) ∧ Ext w w' := by
  have h := ctext_any s A m c l w hr hg
  rw [h0, hT] at h
  exact h
def exC : List Ro := [⟨false, [⟨1, false, 0, 0⟩, ⟨2, false, 0, 0⟩, ⟨4, false, 2, 0⟩]⟩, ⟨true, [⟨1, true, 0, 0⟩, ⟨1, true, 0, 0⟩, ⟨1, true, 0, 0⟩]⟩]
theorem exC_chk : chkC 3 exC = 0 := by decide +kernel
theorem exC_parse : chartP [115, 116, 97, 114, 116, 32, 51, 10, 102, 114, 111, 110, 116, 32, 107, 32, 121, 111, 32, 107, 108, 50, 10, 98, 97, 99, 107, 32, 112, 51, 10] = some (3, exC) := by decide +kernel
theorem exC_cnt : cntC 3 exC = [3, 3, 3] := by decide +kernel
theorem exC_face : seenL (exC.getD 1 ro0).back (exC.getD 1 ro0).cells = [⟨1, false, 0, 0⟩, ⟨1, false, 0, 0⟩, ⟨1, false, 0, 0⟩] := by decide +kernel
theorem exC_faceT : textL [⟨1, false, 0, 0⟩, ⟨1, false, 0, 0⟩, ⟨1, false, 0, 0⟩] = [107, 51] := by decide +kernel
theorem exC_faceE : allE [⟨1, false, 0, 0⟩, ⟨1, false, 0, 0⟩, ⟨1, false, 0, 0⟩] = 0 := by decide +kernel
theorem exC_flipE : ctextE 3 (flipL exC) = 0 := by decide +kernel
theorem exC_flipT : ctextV 3 (flipL exC) = [115, 116, 97, 114, 116, 32, 51, 10, 98, 97, 99, 107, 32, 107, 32, 121, 111, 32, 107, 108, 50, 10, 102, 114, 111, 110, 116, 32, 112, 51, 10] := by decide +kernel
theorem Ints.lit (w : World) (L : List Int) (t : TypeId) : Ints (w.alloc (.cells (L.map (Value.int .i64)).toArray t)) (some ⟨w.heap.size, 0, none⟩) L.length L := by
  refine ⟨rfl, fun hn => ⟨w.heap.size, 0, rfl, by simp, fun j hj => ?_⟩⟩
  rw [Nat.zero_add]
  have h : (w.alloc (.cells (L.map (Value.int .i64)).toArray t)).heap[w.heap.size]? = some (.cells (L.map (Value.int .i64)).toArray t) := heap_alloc_new w _
  rw [cell_of_row _ w.heap.size j _ t (0, 0) h]
  simp [List.getD_eq_getElem?_getD, List.getElem?_eq_getElem hj]
theorem Ints.lit2 {w : World} {L : List Int} {t : TypeId} {g n : Nat} {cs : Array Value} (hg : g = w.heap.size) (hc : cs = (L.map (Value.int .i64)).toArray) (hn : n = L.length) : Ints (w.alloc (.cells cs t)) (some ⟨g, 0, none⟩) n L := by
  subst hg; subst hc; subst hn; exact Ints.lit w L t
/-- a chart in a box -/
def BoxAt (w : World) (p : Nat) (s : Int) (v : Value) : Prop := w.cell? ⟨p, 0, none⟩ = some (.int .i64 s) ∧ w.cell? ⟨p, 1, none⟩ = some v ∧ p < w.heap.size
theorem BoxAt.ext {w w' : World} {p : Nat} {s : Int} {v : Value} (h : BoxAt w p s v) (hb : Ext w w') : BoxAt w' p s v :=
  ⟨(Below.cell (p := ⟨p, 0, none⟩) hb h.2.2).trans h.1, (Below.cell (p := ⟨p, 1, none⟩) hb h.2.2).trans h.2.1, Nat.lt_of_lt_of_le h.2.2 (Below.size hb)⟩
theorem BoxAt.new_ (w : World) (s : Int) (v : Value) (t : TypeId) : BoxAt (w.alloc (.cells #[.int .i64 s, v] t)) w.heap.size s v := ⟨by simp [go_sem], by simp [go_sem], by simp⟩
set_option maxHeartbeats 8000000 in
theorem calive_any (w : World) (hg : Glob w) : Calls Tryz.prog 15 #[] w fun e w' => e = .returned (.bool true) ∧ Ext w w' := by
  have HG := Lib.hid hg
  have HB := Lib.hid (Ext.refl w)
  clear hg
  go_enter Tryz.func15, Tryz.ntmps15
  go_wp2_with (first
    | (go_at_call 12; go_loud ((with_reducible refine (cparse_c 2 exC_parse rfl HG.out).mono ?_); rintro e w1 ⟨A1, c1, rfl, hq, hr⟩; replace HB := Lib.hid (HB.out.trans hq); have HR1 := Lib.hid (hr.any.ext ((Ext.refl _).alloc (.cells #[.int .i64 3, .slice A1 2 c1] 24))); have HX1 := Lib.hid (BoxAt.new_ w1 3 (.slice A1 2 c1) 24); clear hq hr))
    | (go_at_call 17; go_loud ((with_reducible refine (ccounts_c 3 HR1.out exC_chk exC_cnt rfl).mono ?_); rintro e w2 ⟨A2, c2, rfl, hq, hv⟩; replace HB := Lib.hid (HB.out.trans (((Ext.refl _).alloc _).trans hq)); replace HR1 := Lib.hid (HR1.out.ext hq); replace HX1 := Lib.hid (HX1.out.ext hq); obtain ⟨k0, k1, k2⟩ := HX1.out; have HV2 := Lib.hid hv; clear hq hv))
    | (go_at_call 20; go_loud ((with_reducible refine (cface_c 1 1 3 rfl HR1.out exC_chk (by decide) exC_face rfl).mono ?_); rintro e w3 ⟨A3, c3, rfl, hq, hv⟩; clear k0 k1 k2; replace HB := Lib.hid (HB.out.trans hq); replace HR1 := Lib.hid (HR1.out.ext hq); replace HX1 := Lib.hid (HX1.out.ext hq); replace HV2 := Lib.hid (Ints.ext HV2.out hq); obtain ⟨k0, k1, k2⟩ := HX1.out; have HV3 := Lib.hid hv; clear hq hv))
    | (go_at_call 31; go_loud ((with_reducible refine (stext_c HV3.out exC_faceE exC_faceT (HG.out.ext HB.out)).mono ?_); rintro e w4 ⟨rfl, hq⟩; clear k0 k1 k2; replace HB := Lib.hid (HB.out.trans hq); replace HR1 := Lib.hid (HR1.out.ext hq); replace HX1 := Lib.hid (HX1.out.ext hq); replace HV2 := Lib.hid (Ints.ext HV2.out hq); obtain ⟨k0, k1, k2⟩ := HX1.out; clear hq))
    | (go_at_call 21; go_loud ((with_reducible refine (cflip_c HR1.out exC_chk rfl).mono ?_); rintro e w5 ⟨A5, c5, rfl, hq, hr⟩; clear k0 k1 k2; replace HB := Lib.hid (HB.out.trans hq); replace HV2 := Lib.hid ((Ints.ext HV2.out hq).ext ((Ext.refl _).alloc (.cells #[.int .i64 3, .slice A5 2 c5] 24))); have HR5 := Lib.hid (hr.any.ext ((Ext.refl _).alloc (.cells #[.int .i64 3, .slice A5 2 c5] 24))); clear hq hr))
    | (go_at_call 10; go_loud ((with_reducible refine (ctext_c HR5.out exC_flipE exC_flipT (HG.out.ext (HB.out.trans ((Ext.refl _).alloc _)))).mono ?_); rintro e w6 ⟨rfl, hq⟩; replace HB := Lib.hid (HB.out.trans (((Ext.refl _).alloc _).trans hq)); replace HV2 := Lib.hid (Ints.ext HV2.out hq); clear hq))
    | (go_at_call 22; go_loud ((with_reducible refine (sameints_any 3 3 _ _ _ _ [3, 3, 3] _ (Ints.ext HV2.out (by repeat (first | exact Ext.refl _ | refine Ext.drew ?_ | refine Ext.drewN ?_ _ | refine Ext.alloc ?_ _))) (Ints.lit2 (by rfl) (by simp) (by simp)) (by unfold maxLen; omega)).mono ?_); rintro e w7 ⟨rfl, hq⟩; replace HB := Lib.hid (HB.out.trans (Ext.trans (by repeat (first | exact Ext.refl _ | refine Ext.drew ?_ | refine Ext.drewN ?_ _ | refine Ext.alloc ?_ _)) hq)); clear hq)))
  go_ret
  exact ⟨rfl, HB.out⟩
end Go.Proofs.YtjjhoonkooihjaaGreatDoor
/- What the rows' listed variables give. -/
namespace Go.Proofs.YtjjhoonkooihjaaGreatDoor
set_option maxRecDepth 100000
set_option maxRecDepth 100000
open Go.ChangeShapes Go.WideShapes Go.ChangeAt Go.RowKit
theorem star_err : "*" ++ "errors.errorString" = "*errors.errorString" := by decide
theorem row_err (u : TypeId) (h : Tryz.prog.typeName? 3 u = some "*errors.errorString") : u = 174 :=
  typeName_ptr_named (nm := "errors.errorString") (by rw [star_err]; kernel_rfl) (by kernel_rfl) (by decide) u (by rw [star_err]; exact h)
theorem pow_tab : Rows.laid_internal_strconv_uint64pow10 (H := Unit) = Lib.tabData .u64 Lib.pow10Tab := by rfl
theorem glob_of {W : World} (hL : laidMet Tryz.prog [("math/bits.deBruijn32tab", Rows.laid_math_bits_deBruijn32tab), ("math/bits.deBruijn64tab", Rows.laid_math_bits_deBruijn64tab), ("internal/strconv.uint64pow10", Rows.laid_internal_strconv_uint64pow10), ("unicode/utf8.acceptRanges", Rows.laid_unicode_utf8_acceptRanges), ("strconv.ErrRange", Rows.laid_strconv_ErrRange), ("strconv.ErrSyntax", Rows.laid_strconv_ErrSyntax), ("unicode/utf8.first", Rows.laid_unicode_utf8_first)] W) (hsh : W.ShapedOpen Tryz.prog) : Glob W := by
  have h1 := laidMet.tail (laidMet.tail hL)
  have h2 := laidMet.tail (laidMet.tail h1)
  have h3 := laidMet.tail h2
  rw [pow_tab] at h1
  refine ⟨Lib.tabIs_of_head (g := 3) (t := 168) (e := 148) (n := 20) (by kernel_rfl) (by kernel_rfl) (by kernel_rfl) (by kernel_rfl) (by kernel_rfl) (by kernel_rfl) h1, ?_, ?_, Tryz.laysM146.s1_3 W hsh⟩
  · obtain ⟨a, s, h, -⟩ := laid_sentinel (g := 1) (ti := 66) (tp := 174) (te := 176) (ts := 9) h3 (by kernel_rfl) (by kernel_rfl) Tryz.underlying66 row_err (by kernel_rfl) Tryz.underlying176 rfl rfl (by kernel_rfl) (by kernel_rfl) (by kernel_rfl)
    exact ⟨_, _, h⟩
  · obtain ⟨a, s, h, -⟩ := laid_sentinel (g := 2) (ti := 66) (tp := 174) (te := 176) (ts := 9) h2 (by kernel_rfl) (by kernel_rfl) Tryz.underlying66 row_err (by kernel_rfl) Tryz.underlying176 rfl rfl (by kernel_rfl) (by kernel_rfl) (by kernel_rfl)
    exact ⟨_, _, h⟩
end Go.Proofs.YtjjhoonkooihjaaGreatDoor
