/- The contracts of Join of charts, both. -/
import Derived.Test.YtjjhoonkooihjaaGreatDoorG12
import Derived.Test.YtjjhoonkooihjaaGreatDoorG07
import Derived.Test.YtjjhoonkooihjaaGreatDoorG10
namespace Go.Proofs.YtjjhoonkooihjaaGreatDoor
set_option maxRecDepth 100000
open Go.RowKit Go.ChangeShapes Go.WideShapes Go.Joins
/-- a call has returned a chart, made by itself, and an error -/
def ChR (s : Int) (l : List Ro) (x : Int) (w : World) (e : Ending) (w' : World) : Prop := ∃ (A : Option Addr) (n c : Nat), e = .returned (.tuple #[.agg #[.int .i64 s, .slice A n c], .int .i64 x]) ∧ Ext w w' ∧ Rws w' (fun b => w.heap.size ≤ b) A n l
/-- the last count -/
def lastC (s : Int) (l : List Ro) : Int := (cntC s l).getD l.length 0
/-- the error of Join -/
def joinE (s : Int) (l : List Ro) (t : Int) (r : List Ro) : Int := if chkC s l ≠ 0 then chkC s l else if chkC t r ≠ 0 then chkC t r else if lastC s l ≠ t then 26 else if 100 < l.length + r.length then 4 else 0
/-- what Join returns -/
def JoinR (s : Int) (l : List Ro) (t : Int) (r : List Ro) (w : World) : Ending → World → Prop := ChR (if joinE s l t r = 0 then s else 0) (if joinE s l t r = 0 then l ++ r else []) (joinE s l t r) w
theorem JoinR.no {s : Int} {l : List Ro} {t : Int} {r : List Ro} {w w' : World} {e : Ending} {x : Int} (hx : joinE s l t r = x) (h0 : x ≠ 0) (h : e = .returned (.tuple #[.agg #[.int .i64 0, .slice none 0 0], .int .i64 x])) (hb : Ext w w') : JoinR s l t r w e w' := by
  unfold JoinR
  rw [hx, if_neg h0, if_neg h0]
  exact ⟨none, 0, 0, h, hb, Rws.none_ _ _ _⟩
theorem JoinR.yes {s : Int} {l : List Ro} {t : Int} {r : List Ro} {w w' : World} {e : Ending} {A : Option Addr} {n c : Nat} (hx : joinE s l t r = 0) (h : e = .returned (.tuple #[.agg #[.int .i64 s, .slice A n c], .int .i64 0])) (hb : Ext w w') (hr : Rws w' (fun b => w.heap.size ≤ b) A n (l ++ r)) : JoinR s l t r w e w' := by
  unfold JoinR
  rw [hx, if_pos rfl, if_pos rfl]
  exact ⟨A, n, c, h, hb, hr⟩
theorem chk_cells {s : Int} {l : List Ro} (h : chkC s l = 0) : l.length ≤ 100 ∧ ∀ k, k < l.length → (l.getD k ro0).cells.length ≤ 1000 := by
  refine ⟨(chkC_ok h).1, fun k hk => ?_⟩
  have := (allE_e (chkGo_ok (chkC_ok h).2.2.2 k hk).1).1
  omega
theorem last_at {s : Int} {l : List Ro} {w : World} {A : Option Addr} {n : Nat} (h : Ints w A n (cntC s l)) : n = l.length + 1 ∧ ∃ b off, A = some ⟨b, off, none⟩ ∧ b < w.heap.size ∧ w.cell? ⟨b, off + l.length, none⟩ = some (.int .i64 (lastC s l)) := by
  have hn : n = l.length + 1 := by rw [← h.1, cntC_len]
  obtain ⟨b, off, e, hb, hc⟩ := h.2 (by omega)
  exact ⟨hn, b, off, e, hb, hc l.length (by omega)⟩
theorem join_1 {s t : Int} {l r : List Ro} (h : chkC s l ≠ 0) : joinE s l t r = chkC s l := by rw [joinE, if_pos h]
theorem join_2 {s t : Int} {l r : List Ro} (h : chkC s l = 0) (h2 : chkC t r ≠ 0) : joinE s l t r = chkC t r := by rw [joinE, if_neg (by simpa using h), if_pos h2]
theorem join_3 {s t : Int} {l r : List Ro} (h : chkC s l = 0) (h2 : chkC t r = 0) (h3 : lastC s l ≠ t) : joinE s l t r = 26 := by rw [joinE, if_neg (by simpa using h), if_neg (by simpa using h2), if_pos h3]
theorem join_4 {s t : Int} {l r : List Ro} (h : chkC s l = 0) (h2 : chkC t r = 0) (h3 : lastC s l = t) (h4 : 100 < l.length + r.length) : joinE s l t r = 4 := by rw [joinE, if_neg (by simpa using h), if_neg (by simpa using h2), if_neg (by simpa using h3), if_pos h4]
theorem join_0 {s t : Int} {l r : List Ro} (h : chkC s l = 0) (h2 : chkC t r = 0) (h3 : lastC s l = t) (h4 : ¬ 100 < l.length + r.length) : joinE s l t r = 0 := by rw [joinE, if_neg (by simpa using h), if_neg (by simpa using h2), if_neg (by simpa using h3), if_neg h4]
theorem CntR.out_ok {s : Int} {l : List Ro} {w w' : World} {e : Ending} (h : CntR s l w e w') (h0 : chkC s l = 0) : ∃ (A : Option Addr) (n c : Nat), e = .returned (.tuple #[.slice A n c, .int .i64 0]) ∧ Ext w w' ∧ Ints w' A n (cntC s l) ∧ ∀ b off, A = some ⟨b, off, none⟩ → w.heap.size ≤ b := by
  obtain ⟨A, n, c, h1, h2, h3⟩ := h
  rw [h0] at h1
  obtain ⟨h3, h4⟩ := h3
  rw [if_pos h0] at h3
  exact ⟨A, n, c, h1, h2, h3, h4⟩
theorem CntR.out_no {s : Int} {l : List Ro} {w w' : World} {e : Ending} (h : CntR s l w e w') : ∃ (A : Option Addr) (n c : Nat), e = .returned (.tuple #[.slice A n c, .int .i64 (chkC s l)]) ∧ Ext w w' := by
  obtain ⟨A, n, c, h1, h2, h3⟩ := h
  exact ⟨A, n, c, h1, h2⟩
theorem res_cells {w : World} {g : Nat} {u0 u1 v0 v1 : Value} (h0 : w.cell? ⟨g, 0, none⟩ = some u0) (h1 : w.cell? ⟨g, 1, none⟩ = some u1) : (w.setCell ⟨g, 0, none⟩ v0).cell? ⟨g, 0, none⟩ = some v0 ∧ ((w.setCell ⟨g, 0, none⟩ v0).setCell ⟨g, 1, none⟩ v1).cell? ⟨g, 1, none⟩ = some v1 :=
  ⟨World.cell?_setCell_same w ⟨g, 0, none⟩ v0 h0, World.cell?_setCell_same _ ⟨g, 1, none⟩ v1 ((World.cell?_setCell_other w ⟨g, 0, none⟩ ⟨g, 1, none⟩ v0 (by simp)).trans h1)⟩
theorem res_rws {w : World} {g B B' n : Nat} {A : Option Addr} {l : List Ro} {v0 v1 : Value} (h : Rws w (fun b => B ≤ b) A n l) (hg : g < B) (hB : B' ≤ B) : Rws ((w.setCell ⟨g, 0, none⟩ v0).setCell ⟨g, 1, none⟩ v1) (fun b => B' ≤ b) A n l := by
  refine h.keep (Nat.le_of_eq (by simp)) fun b hb hk => ⟨Nat.le_trans hB hk, fun o => ?_⟩
  have hk' : B ≤ b := hk
  have hne : ¬ (b = g) := by omega
  rw [World.cell?_setCell_other _ ⟨g, 1, none⟩ ⟨b, o, none⟩ v1 (by simp <;> omega), World.cell?_setCell_other _ ⟨g, 0, none⟩ ⟨b, o, none⟩ v0 (by simp <;> omega)]
set_option maxRecDepth 100000 in
set_option maxHeartbeats 8000000 in
theorem cjoin_any (s t : Int) (A B : Option Addr) (m n c d : Nat) (la lb : List Ro) (w : World) (ha : Rws w (fun _ => True) A m la) (hbb : Rws w (fun _ => True) B n lb) :
    Calls Tryz.prog 27 #[.agg #[.int .i64 s, .slice A m c], .agg #[.int .i64 t, .slice B n d]] w (JoinR s la t lb w) := by
  have hla := ha.len
  have hlb := hbb.len
  have HA := Lib.hid ha
  have HB := Lib.hid hbb
  have HLA := Lib.hid hla
  have HLB := Lib.hid hlb
  clear ha hbb hla hlb
  have hB0 := Lib.hid (show Ext w (((w.alloc (.cells #[.int .i64 s, .slice A m c] 24)).alloc (.cells #[.int .i64 t, .slice B n d] 24)).alloc (.cells #[.int .i64 0, .slice none 0 0] 24)) from (((Ext.refl _).alloc _).alloc _).alloc _)
  have hb : Ext (((w.alloc (.cells #[.int .i64 s, .slice A m c] 24)).alloc (.cells #[.int .i64 t, .slice B n d] 24)).alloc (.cells #[.int .i64 0, .slice none 0 0] 24)) (((w.alloc (.cells #[.int .i64 s, .slice A m c] 24)).alloc (.cells #[.int .i64 t, .slice B n d] 24)).alloc (.cells #[.int .i64 0, .slice none 0 0] 24)) := Ext.refl _
  have hlt2 : w.heap.size < w.heap.size + 1 + 1 + 1 := by omega
  have hlt3 : w.heap.size + 1 < w.heap.size + 1 + 1 + 1 := by omega
  have hlt4 : w.heap.size + 1 + 1 < w.heap.size + 1 + 1 + 1 := by omega
  obtain ⟨hc, hf, hz⟩ := hb.facts
  have HU0 := Lib.hid (fun (w' : World) (h : Ext (((w.alloc (.cells #[.int .i64 s, .slice A m c] 24)).alloc (.cells #[.int .i64 t, .slice B n d] 24)).alloc (.cells #[.int .i64 0, .slice none 0 0] 24)) w') => (show w'.cell? ⟨w.heap.size + 1 + 1, 0, none⟩ = some (.int .i64 0) by rw [(Ext.facts h).1 _ _ (by simp only [World.size_alloc]; omega)]; simp [go_sem]))
  have HU1 := Lib.hid (fun (w' : World) (h : Ext (((w.alloc (.cells #[.int .i64 s, .slice A m c] 24)).alloc (.cells #[.int .i64 t, .slice B n d] 24)).alloc (.cells #[.int .i64 0, .slice none 0 0] 24)) w') => (show w'.cell? ⟨w.heap.size + 1 + 1, 1, none⟩ = some (.slice none 0 0) by rw [(Ext.facts h).1 _ _ (by simp only [World.size_alloc]; omega)]; simp [go_sem]))
  by_cases h1 : chkC s la = 0
  case neg =>
    have HJ := Lib.hid (join_1 (t := t) (r := lb) h1)
    have HC1 := Lib.hid h1
    have hne : (chkC s la != 0) = true := by simpa using h1
    clear h1
    go_enter Tryz.func27, Tryz.ntmps27
    go_wp2_with (first | (go_at_call 17; ((with_reducible refine (ccounts_any s A m c la _ (HA.out.ext (hB0.out.trans (hb.trans (by repeat (first | exact Ext.refl _ | refine Ext.drew ?_ | refine Ext.drewN ?_ _ | refine Ext.alloc ?_ _)))))).mono ?_); intro e w1 hr1; obtain ⟨A1, n1, c1, rfl, hq1⟩ := hr1.out_no; replace hb := Ext.via hb hq1 (by repeat (first | exact Ext.refl _ | refine Ext.drew ?_ | refine Ext.drewN ?_ _ | refine Ext.alloc ?_ _)); clear hq1; obtain ⟨hc, hf, hz⟩ := hb.facts)))
    obtain ⟨k0, k1⟩ := res_cells (v0 := .int .i64 0) (v1 := .slice none 0 0) (HU0.out _ hb) (HU1.out _ hb)
    have HX9 := Lib.hid (hB0.out.trans hb)
    clear hc hf hz
    exact bodyPost_ret (v := .tuple #[.agg #[.int .i64 0, .slice none 0 0], .int .i64 (chkC s la)]) (by simp [results, Tryz.f27, go_sem, k0, k1]) rfl (JoinR.no HJ.out HC1.out rfl (Below.setCell (Below.setCell HX9.out (by simp; omega) _) (by simp; omega) _))
  have HC1 := Lib.hid h1
  by_cases h2 : chkC t lb = 0
  case neg =>
    have HJ := Lib.hid (join_2 h1 h2)
    have hne : (chkC t lb != 0) = true := by simpa using h2
    have HC9 := Lib.hid h2
    generalize hx2 : chkC t lb = x2 at *
    have HC2 := Lib.hid hx2
    clear h1 h2 hx2
    go_enter Tryz.func27, Tryz.ntmps27
    go_wp2_with (first | (go_at_call 17; ((with_reducible refine (ccounts_any s A m c la _ (HA.out.ext (hB0.out.trans (hb.trans (by repeat (first | exact Ext.refl _ | refine Ext.drew ?_ | refine Ext.drewN ?_ _ | refine Ext.alloc ?_ _)))))).mono ?_); intro e w1 hr1; obtain ⟨A1, n1, c1, rfl, hq1, hi1, hfr1⟩ := hr1.out_ok HC1.out; clear hfr1; replace hb := Ext.via hb hq1 (by repeat (first | exact Ext.refl _ | refine Ext.drew ?_ | refine Ext.drewN ?_ _ | refine Ext.alloc ?_ _)); clear hq1; obtain ⟨hc, hf, hz⟩ := hb.facts; obtain ⟨rfl, b1, o1, rfl, hb1, hl1⟩ := last_at hi1; have HL1 := Lib.hid hl1; clear hi1 hl1 hr1)) | (go_at_call 25; ((with_reducible refine (ccheck_any t B n d lb _ (HB.out.ext (hB0.out.trans (hb.trans (by repeat (first | exact Ext.refl _ | refine Ext.drew ?_ | refine Ext.drewN ?_ _ | refine Ext.alloc ?_ _)))))).mono ?_); rintro e w2 ⟨rfl, hq2⟩; have hl2 := (Below.cell (p := ⟨b1, o1 + la.length, none⟩) (Ext.trans (by repeat (first | exact Ext.refl _ | refine Ext.drew ?_ | refine Ext.drewN ?_ _ | refine Ext.alloc ?_ _)) hq2) hb1).trans HL1.out; have hb2 : b1 < w2.heap.size := Nat.lt_of_lt_of_le hb1 (Below.size (Ext.trans (by repeat (first | exact Ext.refl _ | refine Ext.drew ?_ | refine Ext.drewN ?_ _ | refine Ext.alloc ?_ _)) hq2)); replace hb := Ext.via hb hq2 (by repeat (first | exact Ext.refl _ | refine Ext.drew ?_ | refine Ext.drewN ?_ _ | refine Ext.alloc ?_ _)); clear hq2; obtain ⟨hc, hf, hz⟩ := hb.facts; rw [HC2.out])))
    obtain ⟨k0, k1⟩ := res_cells (v0 := .int .i64 0) (v1 := .slice none 0 0) (HU0.out _ hb) (HU1.out _ hb)
    have HX9 := Lib.hid (hB0.out.trans hb)
    clear hc hf hz
    exact bodyPost_ret (v := .tuple #[.agg #[.int .i64 0, .slice none 0 0], .int .i64 x2]) (by simp [results, Tryz.f27, go_sem, k0, k1]) rfl (JoinR.no HJ.out HC9.out rfl (Below.setCell (Below.setCell HX9.out (by simp; omega) _) (by simp; omega) _))
  have HC2 := Lib.hid h2
  by_cases h3 : lastC s la = t
  case neg =>
    have HJ := Lib.hid (join_3 h1 h2 h3)
    have hne : (lastC s la != t) = true := by simpa using h3
    clear h1 h2 h3
    go_enter Tryz.func27, Tryz.ntmps27
    go_wp2_with (first | (go_at_call 17; ((with_reducible refine (ccounts_any s A m c la _ (HA.out.ext (hB0.out.trans (hb.trans (by repeat (first | exact Ext.refl _ | refine Ext.drew ?_ | refine Ext.drewN ?_ _ | refine Ext.alloc ?_ _)))))).mono ?_); intro e w1 hr1; obtain ⟨A1, n1, c1, rfl, hq1, hi1, hfr1⟩ := hr1.out_ok HC1.out; clear hfr1; replace hb := Ext.via hb hq1 (by repeat (first | exact Ext.refl _ | refine Ext.drew ?_ | refine Ext.drewN ?_ _ | refine Ext.alloc ?_ _)); clear hq1; obtain ⟨hc, hf, hz⟩ := hb.facts; obtain ⟨rfl, b1, o1, rfl, hb1, hl1⟩ := last_at hi1; have HL1 := Lib.hid hl1; clear hi1 hl1 hr1)) | (go_at_call 25; ((with_reducible refine (ccheck_any t B n d lb _ (HB.out.ext (hB0.out.trans (hb.trans (by repeat (first | exact Ext.refl _ | refine Ext.drew ?_ | refine Ext.drewN ?_ _ | refine Ext.alloc ?_ _)))))).mono ?_); rintro e w2 ⟨rfl, hq2⟩; have hl2 := (Below.cell (p := ⟨b1, o1 + la.length, none⟩) (Ext.trans (by repeat (first | exact Ext.refl _ | refine Ext.drew ?_ | refine Ext.drewN ?_ _ | refine Ext.alloc ?_ _)) hq2) hb1).trans HL1.out; have hb2 : b1 < w2.heap.size := Nat.lt_of_lt_of_le hb1 (Below.size (Ext.trans (by repeat (first | exact Ext.refl _ | refine Ext.drew ?_ | refine Ext.drewN ?_ _ | refine Ext.alloc ?_ _)) hq2)); replace hb := Ext.via hb hq2 (by repeat (first | exact Ext.refl _ | refine Ext.drew ?_ | refine Ext.drewN ?_ _ | refine Ext.alloc ?_ _)); clear hq2; obtain ⟨hc, hf, hz⟩ := hb.facts; rw [HC2.out])))
    have p0 : (0 : Int) ≤ (la.length : Int) := by omega
    have p1 : (la.length : Int) < (la.length : Int) + 1 := by omega
    have p2 := IntWalk.i64_in (la.length : Int) (by have := (chk_cells HC1.out).1; omega)
    have p3 := hc w.heap.size 0 (by simp only [World.size_alloc]; omega)
    go_quiet (fail)
    clear p2
    go_wp2
    obtain ⟨k0, k1⟩ := res_cells (v0 := .int .i64 0) (v1 := .slice none 0 0) (HU0.out _ (Ext.drewN hb nq)) (HU1.out _ (Ext.drewN hb nq))
    have HX9 := Lib.hid (hB0.out.trans hb)
    clear hc hf hz
    exact bodyPost_ret (v := .tuple #[.agg #[.int .i64 0, .slice none 0 0], .int .i64 26]) (by simp [results, Tryz.f27, go_sem, k0, k1]) rfl (JoinR.no HJ.out (by omega) rfl (Below.setCell (Below.setCell (Ext.drewN HX9.out _) (by simp; omega) _) (by simp; omega) _))
  by_cases h4 : 100 < la.length + lb.length
  case pos =>
    have HJ := Lib.hid (join_4 h1 h2 h3 h4)
    have hne : (lastC s la != t) = false := by simpa using h3
    have hsm : (100 : Int) < (m : Int) + (n : Int) := by rw [← HLA.out, ← HLB.out]; omega
    have hmn1 : (m : Int) ≤ 100 := by rw [← HLA.out]; have := (chk_cells h1).1; omega
    have hmn2 : (n : Int) ≤ 100 := by rw [← HLB.out]; have := (chk_cells h2).1; omega
    clear h1 h2 h3 h4
    go_enter Tryz.func27, Tryz.ntmps27
    go_wp2_with (first | (go_at_call 17; ((with_reducible refine (ccounts_any s A m c la _ (HA.out.ext (hB0.out.trans (hb.trans (by repeat (first | exact Ext.refl _ | refine Ext.drew ?_ | refine Ext.drewN ?_ _ | refine Ext.alloc ?_ _)))))).mono ?_); intro e w1 hr1; obtain ⟨A1, n1, c1, rfl, hq1, hi1, hfr1⟩ := hr1.out_ok HC1.out; clear hfr1; replace hb := Ext.via hb hq1 (by repeat (first | exact Ext.refl _ | refine Ext.drew ?_ | refine Ext.drewN ?_ _ | refine Ext.alloc ?_ _)); clear hq1; obtain ⟨hc, hf, hz⟩ := hb.facts; obtain ⟨rfl, b1, o1, rfl, hb1, hl1⟩ := last_at hi1; have HL1 := Lib.hid hl1; clear hi1 hl1 hr1)) | (go_at_call 25; ((with_reducible refine (ccheck_any t B n d lb _ (HB.out.ext (hB0.out.trans (hb.trans (by repeat (first | exact Ext.refl _ | refine Ext.drew ?_ | refine Ext.drewN ?_ _ | refine Ext.alloc ?_ _)))))).mono ?_); rintro e w2 ⟨rfl, hq2⟩; have hl2 := (Below.cell (p := ⟨b1, o1 + la.length, none⟩) (Ext.trans (by repeat (first | exact Ext.refl _ | refine Ext.drew ?_ | refine Ext.drewN ?_ _ | refine Ext.alloc ?_ _)) hq2) hb1).trans HL1.out; have hb2 : b1 < w2.heap.size := Nat.lt_of_lt_of_le hb1 (Below.size (Ext.trans (by repeat (first | exact Ext.refl _ | refine Ext.drew ?_ | refine Ext.drewN ?_ _ | refine Ext.alloc ?_ _)) hq2)); replace hb := Ext.via hb hq2 (by repeat (first | exact Ext.refl _ | refine Ext.drew ?_ | refine Ext.drewN ?_ _ | refine Ext.alloc ?_ _)); clear hq2; obtain ⟨hc, hf, hz⟩ := hb.facts; rw [HC2.out])))
    have p0 : (0 : Int) ≤ (la.length : Int) := by omega
    have p1 : (la.length : Int) < (la.length : Int) + 1 := by omega
    have p2 := IntWalk.i64_in (la.length : Int) (by have := (chk_cells HC1.out).1; omega)
    have p3 := hc w.heap.size 0 (by simp only [World.size_alloc]; omega)
    go_quiet (fail)
    clear p2
    go_wp2
    obtain ⟨k0, k1⟩ := res_cells (v0 := .int .i64 0) (v1 := .slice none 0 0) (HU0.out _ (Ext.drewN hb nq)) (HU1.out _ (Ext.drewN hb nq))
    have HX9 := Lib.hid (hB0.out.trans hb)
    clear hc hf hz
    exact bodyPost_ret (v := .tuple #[.agg #[.int .i64 0, .slice none 0 0], .int .i64 4]) (by simp [results, Tryz.f27, go_sem, k0, k1]) rfl (JoinR.no HJ.out (by omega) rfl (Below.setCell (Below.setCell (Ext.drewN HX9.out _) (by simp; omega) _) (by simp; omega) _))
  have HJ := Lib.hid (join_0 h1 h2 h3 h4)
  have hne : (lastC s la != t) = false := by simpa using h3
  have hsm : decide ((100 : Int) < (m : Int) + (n : Int)) = false := by simp; rw [← HLA.out, ← HLB.out]; omega
  have hmn1 : (m : Int) ≤ 100 := by rw [← HLA.out]; have := (chk_cells h1).1; omega
  have hmn2 : (n : Int) ≤ 100 := by rw [← HLB.out]; have := (chk_cells h2).1; omega
  have HCA := Lib.hid (show ∀ k, k < m → (la.getD k ro0).cells.length ≤ 1000 by rw [← HLA.out]; exact (chk_cells h1).2)
  have HCB := Lib.hid (show ∀ k, k < n → (lb.getD k ro0).cells.length ≤ 1000 by rw [← HLB.out]; exact (chk_cells h2).2)
  clear h1 h2 h3 h4
  go_enter Tryz.func27, Tryz.ntmps27
  go_wp2_with (first | (go_at_call 17; ((with_reducible refine (ccounts_any s A m c la _ (HA.out.ext (hB0.out.trans (hb.trans (by repeat (first | exact Ext.refl _ | refine Ext.drew ?_ | refine Ext.drewN ?_ _ | refine Ext.alloc ?_ _)))))).mono ?_); intro e w1 hr1; obtain ⟨A1, n1, c1, rfl, hq1, hi1, hfr1⟩ := hr1.out_ok HC1.out; clear hfr1; replace hb := Ext.via hb hq1 (by repeat (first | exact Ext.refl _ | refine Ext.drew ?_ | refine Ext.drewN ?_ _ | refine Ext.alloc ?_ _)); clear hq1; obtain ⟨hc, hf, hz⟩ := hb.facts; obtain ⟨rfl, b1, o1, rfl, hb1, hl1⟩ := last_at hi1; have HL1 := Lib.hid hl1; clear hi1 hl1 hr1)) | (go_at_call 25; ((with_reducible refine (ccheck_any t B n d lb _ (HB.out.ext (hB0.out.trans (hb.trans (by repeat (first | exact Ext.refl _ | refine Ext.drew ?_ | refine Ext.drewN ?_ _ | refine Ext.alloc ?_ _)))))).mono ?_); rintro e w2 ⟨rfl, hq2⟩; have hl2 := (Below.cell (p := ⟨b1, o1 + la.length, none⟩) (Ext.trans (by repeat (first | exact Ext.refl _ | refine Ext.drew ?_ | refine Ext.drewN ?_ _ | refine Ext.alloc ?_ _)) hq2) hb1).trans HL1.out; have hb2 : b1 < w2.heap.size := Nat.lt_of_lt_of_le hb1 (Below.size (Ext.trans (by repeat (first | exact Ext.refl _ | refine Ext.drew ?_ | refine Ext.drewN ?_ _ | refine Ext.alloc ?_ _)) hq2)); replace hb := Ext.via hb hq2 (by repeat (first | exact Ext.refl _ | refine Ext.drew ?_ | refine Ext.drewN ?_ _ | refine Ext.alloc ?_ _)); clear hq2; obtain ⟨hc, hf, hz⟩ := hb.facts; rw [HC2.out])))
  have p0 : (0 : Int) ≤ (la.length : Int) := by omega
  have p1 : (la.length : Int) < (la.length : Int) + 1 := by omega
  have p2 := IntWalk.i64_in (la.length : Int) (by have := (chk_cells HC1.out).1; omega)
  go_quiet (fail)
  clear p2 p0 p1 hl2
  go_wp2_with fail
  have hb3 : Ext (((w.alloc (.cells #[.int .i64 s, .slice A m c] 24)).alloc (.cells #[.int .i64 t, .slice B n d] 24)).alloc (.cells #[.int .i64 0, .slice none 0 0] 24)) (w2.drewN nq) := Ext.drewN hb nq
  obtain ⟨wq, hwq⟩ : ∃ wq, w2.drewN nq = wq := ⟨_, rfl⟩
  rw [hwq] at hb3 ⊢
  clear hwq hb hc hf hz
  have hb := hb3
  clear hb3
  have HBQ := Lib.hid hb
  obtain ⟨hc, hf, hz⟩ := hb.facts
  have k0 := HU0.out _ hb
  have k1 := HU1.out _ hb
  have k2 : wq.frozen? ⟨w.heap.size + 1 + 1, 0, none⟩ = false := by rw [hf _ _ (by simp only [World.size_alloc]; omega)]; simp [go_sem]
  have k3 : wq.frozen? ⟨w.heap.size + 1 + 1, 1, none⟩ = false := by rw [hf _ _ (by simp only [World.size_alloc]; omega)]; simp [go_sem]
  have m0 : wq.cell? ⟨w.heap.size, 0, none⟩ = some (.int .i64 s) := by rw [hc _ _ (by simp only [World.size_alloc]; omega)]; simp [go_sem]
  have m1 : wq.cell? ⟨w.heap.size, 1, none⟩ = some (.slice A m c) := by rw [hc _ _ (by simp only [World.size_alloc]; omega)]; simp [go_sem]
  have m2 : wq.cell? ⟨w.heap.size + 1, 1, none⟩ = some (.slice B n d) := by rw [hc _ _ (by simp only [World.size_alloc]; omega)]; simp [go_sem]
  have hz9 : w.heap.size + 1 + 1 + 1 ≤ wq.heap.size := by have h9 := Below.size hb; simp only [World.size_alloc] at h9; omega
  have z0 : w.heap.size < wq.heap.size := by omega
  have z1 : w.heap.size + 1 < wq.heap.size := by omega
  have z2 : w.heap.size + 1 + 1 < wq.heap.size := by omega
  clear hc hf hz hlt2 hlt3 hlt4
  have q1 : ¬ (w.heap.size = w.heap.size + 1 + 1) := by omega
  have q2 : ¬ (w.heap.size + 1 + 1 = w.heap.size) := by omega
  go_region_held3 (fun w' => w'.cell? ⟨w.heap.size, 0, none⟩ = some (.int .i64 s) ∧ w'.cell? ⟨w.heap.size, 1, none⟩ = some (.slice A m c) ∧ w'.cell? ⟨w.heap.size + 1, 1, none⟩ = some (.slice B n d)) (go_keep)
    (first
      | (go_at_call 49; (first
          | ((with_reducible refine (ctwin_any A m c la _ (HA.out.ext (hB0.out.trans (hb.trans (by repeat (first | exact Ext.refl _ | refine Ext.drew ?_ | refine Ext.drewN ?_ _ | refine Ext.alloc ?_ _))))) (by omega) HCA.out).mono ?_); rintro e w4 ⟨V1, rfl, hq4, ho4⟩; have HE4 := Lib.hid (show Ext wq w4 from Ext.trans (by repeat (first | exact Ext.refl _ | refine Ext.drew ?_ | refine Ext.drewN ?_ _ | refine Ext.alloc ?_ _)) hq4); replace hb := HBQ.out.trans HE4.out; clear hq4; obtain ⟨hc, hf, hz⟩ := HE4.out.facts; have HO4 := Lib.hid (show OwnR w4 wq.heap.size 46 V1 la.length la from ho4); clear ho4)
          | ((with_reducible refine (ctwin_any B n d lb _ (HB.out.ext (hB0.out.trans (hb.trans (by repeat (first | exact Ext.refl _ | refine Ext.drew ?_ | refine Ext.drewN ?_ _ | refine Ext.alloc ?_ _))))) (by omega) HCB.out).mono ?_); rintro e w5 ⟨V2, rfl, hq5, ho5⟩; have HE5 := Lib.hid (show Ext w4 w5 from Ext.trans (by repeat (first | exact Ext.refl _ | refine Ext.drew ?_ | refine Ext.drewN ?_ _ | refine Ext.alloc ?_ _)) hq5); replace hb := HBQ.out.trans (HE4.out.trans HE5.out); clear hq5; obtain ⟨hc, hf, hz⟩ := (HE4.out.trans HE5.out).facts; obtain ⟨ys, hy1, hy2⟩ := ho5; obtain ⟨A2, c2, rfl, hv2, hbl2⟩ := own_vecB hy1; have HV2 := Lib.hid hv2; have HY2 := Lib.hid (hy2.keep (K' := Kr w5 wq.heap.size V1) (Nat.le_refl _) (fun b _ hk9 => ⟨⟨Nat.le_trans (Below.size HE4.out) hk9.1, fun e9 => by have h8 := (HO4.out.blk b e9.symm).2; have h7 := hk9.1; exact absurd h8 (Nat.not_lt.2 h7), hk9.2.2⟩, fun _ => rfl⟩)); clear hy1 hy2 hv2 hbl2)))
      | (refine step_append_rws (w := wq) (t := la) (r := lb) (ys := ys) 22 46 (.agg #[.bool false, .slice none 0 0]) 32 (by rfl) (by rfl) Tryz.underlying22 info_row (by rfl) (by omega) (by rfl) (by rfl) (HO4.out.ext (HE5.out.trans (by repeat (first | exact Ext.refl _ | refine Ext.drew ?_ | refine Ext.drewN ?_ _ | refine Ext.alloc ?_ _)))) (HE4.out.trans (HE5.out.trans (by repeat (first | exact Ext.refl _ | refine Ext.drew ?_ | refine Ext.drewN ?_ _ | refine Ext.alloc ?_ _)))) (HV2.out.ext (by repeat (first | exact Ext.refl _ | refine Ext.drew ?_ | refine Ext.drewN ?_ _ | refine Ext.alloc ?_ _))) (HY2.out.keep (Below.size (by repeat (first | exact Ext.refl _ | refine Ext.drew ?_ | refine Ext.drewN ?_ _ | refine Ext.alloc ?_ _))) (fun b hb9 hk9 => ⟨⟨hk9.1, hk9.2.1, fun o9 => (Ext.frozenAt (by repeat (first | exact Ext.refl _ | refine Ext.drew ?_ | refine Ext.drewN ?_ _ | refine Ext.alloc ?_ _)) ⟨b, o9, none⟩ hb9).trans (hk9.2.2 o9)⟩, fun o9 => Below.cell (p := ⟨b, o9, none⟩) (by repeat (first | exact Ext.refl _ | refine Ext.drew ?_ | refine Ext.drewN ?_ _ | refine Ext.alloc ?_ _)) hb9⟩)) (by rw [HLA.out, HLB.out]; omega) ?_; intro v' w6 hown6 hext6; obtain ⟨A6, c6, rfl, hr6⟩ := own_rws hown6 (by rw [HLA.out, HLB.out]; omega); have HR6 := Lib.hid hr6; clear hr6; have hb6 := HBQ.out.trans hext6.out; obtain ⟨hh1, hh2, hh3⟩ := hext6.out.facts))
  go_wp2
  obtain ⟨y0, y1⟩ := res_cells (v0 := .int .i64 s) (v1 := .slice A6 (la.length + lb.length) c6) (HU0.out w6 hb6) (HU1.out w6 hb6)
  have HX9 := Lib.hid (hB0.out.trans hb6)
  have HR9 := Lib.hid (res_rws (g := w.heap.size + 1 + 1) (v0 := .int .i64 s) (v1 := .slice A6 (la.length + lb.length) c6) HR6.out z2 (by omega : w.heap.size ≤ wq.heap.size))
  exact bodyPost_ret (v := .tuple #[.agg #[.int .i64 s, .slice A6 (la.length + lb.length) c6], .int .i64 0]) (by simp [results, Tryz.f27, go_sem, y0, y1]) rfl (JoinR.yes HJ.out rfl (Below.setCell (Below.setCell HX9.out (by simp; omega) _) (by simp; omega) _) HR9.out)
end Go.Proofs.YtjjhoonkooihjaaGreatDoor
/- Parse of a chart: what it returns, and small facts for its walk. -/
namespace Go.Proofs.YtjjhoonkooihjaaGreatDoor
set_option maxRecDepth 100000
set_option maxRecDepth 100000
open Go.RowKit Go.ChangeShapes Go.WideShapes Go.Joins
theorem Ext.set2 {a b : World} (h : Ext a b) {p : Addr} (_ : p.block < a.heap.size) (u : Value) : Ext (a.setCell p u) (b.setCell p u) := by
  refine ⟨h.os, h.tape, h.output, by simpa using h.size, fun k hk => ?_⟩
  have hk2 : k < a.heap.size := by simpa using hk
  simp only [World.setCell, Array.getElem?_modify]
  rw [h.block k hk2]
theorem OwnR.set {w : World} {B : Nat} {e : TypeId} {v : Value} {k : Nat} {l : List Ro} (h : OwnR w B e v k l) {p : Addr} (hp : p.block < B) (u : Value) : OwnR (w.setCell p u) B e v k l := by
  have hbl := h.blk
  obtain ⟨xs, h1, h2⟩ := h
  refine ⟨xs, h1.but (E := some p.block) (But.own (But.refl _ _) rfl u) ?_, h2.keep (by simp) fun b hb hk => ⟨⟨hk.1, hk.2.1, fun o => (World.frozen?_setCell _ _ _ _).trans (hk.2.2 o)⟩, fun o => ?_⟩⟩
  · cases hv : v.ownBlock with
    | none => exact .inl rfl
    | some b =>
      refine .inr fun e9 => ?_
      have h9 := hbl b hv
      cases e9
      omega
  · exact World.cell?_setCell_other _ p ⟨b, o, none⟩ _ (by intro e9; subst e9; have := hk.1; simp only at hp; omega)
/-- what Parse of a chart returns -/
def cpE (s : List UInt8) : Int := if (chartP s).isSome then 0 else 12
def cpS (s : List UInt8) : Int := ((chartP s).map (·.1)).getD 0
def cpL (s : List UInt8) : List Ro := ((chartP s).map (·.2)).getD []
def CParseR (s : List UInt8) (w : World) : Ending → World → Prop := ChR (cpS s) (cpL s) (cpE s) w
theorem CParseR.no {s : List UInt8} {w w' : World} {e : Ending} (hx : chartP s = none) (h : e = .returned (.tuple #[.agg #[.int .i64 0, .slice none 0 0], .int .i64 12])) (hb : Ext w w') : CParseR s w e w' := by
  unfold CParseR cpS cpL cpE
  rw [hx]
  exact ⟨none, 0, 0, h, hb, Rws.none_ _ _ _⟩
theorem CParseR.yes {s : List UInt8} {n : Int} {l : List Ro} {w w' : World} {e : Ending} {A : Option Addr} {m c : Nat} (hx : chartP s = some (n, l)) (h : e = .returned (.tuple #[.agg #[.int .i64 n, .slice A m c], .int .i64 0])) (hb : Ext w w') (hr : Rws w' (fun b => w.heap.size ≤ b) A m l) : CParseR s w e w' := by
  unfold CParseR cpS cpL cpE
  rw [hx]
  exact ⟨A, m, c, h, hb, hr⟩
theorem cutF_len (c : UInt8) (l : List UInt8) : (cutF c l).1.length ≤ l.length ∧ (cutF c l).2.1.length ≤ l.length ∧ (l ≠ [] → (cutF c l).2.1.length < l.length) := by
  induction l with
  | nil => simp [cutF]
  | cons x l ih =>
    obtain ⟨i1, i2, _⟩ := ih
    rw [cutF]
    split
    · simp
    · simp only [List.length_cons]
      exact ⟨by omega, by omega, fun _ => by omega⟩
theorem rowsP_end (f : Nat) (acc : List Ro) : rowsP f acc [] = some acc := by cases f <;> simp [rowsP]
theorem rowsP_many {f : Nat} {acc : List Ro} {rest : List UInt8} (h : 100 < acc.length) : rowsP f acc rest = some acc := by cases f <;> simp [rowsP, h]
theorem rowsP_cut {f : Nat} {acc : List Ro} {rest : List UInt8} (h0 : rest ≠ []) (h : ¬ 100 < acc.length) (hc : (cutF 10 rest).2.2 = false) : rowsP (f + 1) acc rest = none := by
  rw [rowsP, if_neg (by simp [h0, h]), if_pos hc]
theorem rowsP_no {f : Nat} {acc : List Ro} {rest : List UInt8} (h0 : rest ≠ []) (h : ¬ 100 < acc.length) (hc : (cutF 10 rest).2.2 = true) (hp : parseL (cutF 32 (cutF 10 rest).1).2.1 = none) : rowsP (f + 1) acc rest = none := by
  rw [rowsP, if_neg (by simp [h0, h]), if_neg (by simp [hc]), rowP, hp]
  rfl
theorem rowsP_yes {f : Nat} {acc : List Ro} {rest : List UInt8} {l : List St} (h0 : rest ≠ []) (h : ¬ 100 < acc.length) (hc : (cutF 10 rest).2.2 = true) (hp : parseL (cutF 32 (cutF 10 rest).1).2.1 = some l) :
    rowsP (f + 1) acc rest = rowsP f (acc ++ [⟨decide ((cutF 32 (cutF 10 rest).1).1 = sideT true), l⟩]) (cutF 10 rest).2.1 := by
  rw [rowsP, if_neg (by simp [h0, h]), if_neg (by simp [hc]), rowP, hp]
  rfl
theorem chartP_end {s : List UInt8} {n : Int} {l : List Ro} (hs : s.length ≤ 20000) (hc : (cutF 10 s).2.2 = true) (ha : atoiO (trimF (cutF 10 s).1) = some n) (hr : rowsP s.length [] (cutF 10 s).2.1 = some l) :
    chartP s = if ctextE n l = 0 ∧ ctextV n l = s then some (n, l) else none := by
  rw [chartP, if_neg (by omega), if_neg (by simp [hc]), ha]
  simp only
  rw [hr, Option.bind_some]
  have key : (chkC n l = 0 ∧ chartL n l = s) ↔ (ctextE n l = 0 ∧ ctextV n l = s) := by
    constructor
    · rintro ⟨h1, h2⟩
      have h3 : ctextE n l = 0 := by rw [ctextE, if_neg (by simpa using h1), if_neg (by rw [h2]; omega)]
      exact ⟨h3, by rw [ctextV, if_pos h3, h2]⟩
    · rintro ⟨h1, h2⟩
      rw [ctextV, if_pos h1] at h2
      refine ⟨?_, h2⟩
      unfold ctextE at h1
      split at h1
      · exact h1
      · rename_i h3
        simpa using h3
  by_cases hk : chkC n l = 0 ∧ chartL n l = s
  · rw [if_pos hk, if_pos (key.1 hk)]
  · rw [if_neg hk, if_neg (fun h => hk (key.2 h))]
theorem chartP_bad {s : List UInt8} {n : Int} (hs : s.length ≤ 20000) (hc : (cutF 10 s).2.2 = true) (ha : atoiO (trimF (cutF 10 s).1) = some n) (hr : rowsP s.length [] (cutF 10 s).2.1 = none) : chartP s = none := by
  rw [chartP, if_neg (by omega), if_neg (by simp [hc]), ha]
  simp [hr]
theorem chartP_cut {s : List UInt8} (hc : (cutF 10 s).2.2 = false) : chartP s = none := by
  rw [chartP]
  simp [hc]
theorem chartP_num {s : List UInt8} (ha : atoiO (trimF (cutF 10 s).1) = none) : chartP s = none := by
  rw [chartP, ha]
  simp
theorem trimF_len (l : List UInt8) : (trimF l).length ≤ l.length := by
  unfold trimF
  split <;> simp
theorem ctrim_any (l : List UInt8) (w : World) :
    Calls Tryz.prog 38 #[.string ⟨l.toArray⟩, .string ⟨#[115, 116, 97, 114, 116, 32]⟩] w fun e w' => e = .returned (.string ⟨(trimF l).toArray⟩) ∧ w' = w := by
  refine (Tryz.strings_TrimPrefix ⟨l.toArray⟩ ⟨#[115, 116, 97, 114, 116, 32]⟩ w).mono ?_
  rintro e w' ⟨rfl, rfl⟩
  refine ⟨?_, rfl⟩
  rw [show (⟨l.toArray⟩ : ByteArray).data.toList = l from str_data l]
  rfl
/-- the state of Parse in its rounds: the cell of the result, of what is left, and of the chart -/
structure PI (n : Int) (gR gr gc : Nat) (w W wr : World) (rest : List UInt8) (acc : List Ro) (V : Value) : Prop where
  e0 : Ext w W
  e1 : Ext W wr
  r0 : W.cell? ⟨gR, 0, none⟩ = some (.int .i64 0)
  r1 : W.cell? ⟨gR, 1, none⟩ = some (.slice none 0 0)
  s0 : W.cell? ⟨gr, 0, none⟩ = some (.string ⟨rest.toArray⟩)
  c0 : W.cell? ⟨gc, 0, none⟩ = some (.int .i64 n)
  c1 : W.cell? ⟨gc, 1, none⟩ = some V
  z0 : ∀ o, W.frozen? ⟨gR, o, none⟩ = false
  z1 : ∀ o, W.frozen? ⟨gr, o, none⟩ = false
  z2 : ∀ o, W.frozen? ⟨gc, o, none⟩ = false
  lt : w.heap.size ≤ gR ∧ gR < gr ∧ gr < gc ∧ gc < W.heap.size
  own : OwnR wr W.heap.size 46 V acc.length acc
theorem PI.ext {n : Int} {gR gr gc : Nat} {w W wr wx : World} {rest : List UInt8} {acc : List Ro} {V : Value} (h : PI n gR gr gc w W wr rest acc V) (hb : Ext wr wx) : PI n gR gr gc w W wx rest acc V :=
  { h with e1 := h.e1.trans hb, own := h.own.ext hb }
theorem PI.facts {n : Int} {gR gr gc : Nat} {w W wr : World} {rest : List UInt8} {acc : List Ro} {V : Value} (h : PI n gR gr gc w W wr rest acc V) :
    wr.cell? ⟨gR, 0, none⟩ = some (.int .i64 0) ∧ wr.cell? ⟨gR, 1, none⟩ = some (.slice none 0 0) ∧ wr.cell? ⟨gr, 0, none⟩ = some (.string ⟨rest.toArray⟩) ∧ wr.cell? ⟨gc, 0, none⟩ = some (.int .i64 n) ∧ wr.cell? ⟨gc, 1, none⟩ = some V ∧
      (∀ o, wr.frozen? ⟨gR, o, none⟩ = false) ∧ (∀ o, wr.frozen? ⟨gr, o, none⟩ = false) ∧ (∀ o, wr.frozen? ⟨gc, o, none⟩ = false) ∧ gR < wr.heap.size ∧ gr < wr.heap.size ∧ gc < wr.heap.size := by
  obtain ⟨hc, hf, hz⟩ := h.e1.facts
  obtain ⟨l0, l1, l2, l3⟩ := h.lt
  exact ⟨(hc _ _ (by omega)).trans h.r0, (hc _ _ (by omega)).trans h.r1, (hc _ _ (by omega)).trans h.s0, (hc _ _ (by omega)).trans h.c0, (hc _ _ (by omega)).trans h.c1,
    fun o => (hf _ o (by omega)).trans (h.z0 o), fun o => (hf _ o (by omega)).trans (h.z1 o), fun o => (hf _ o (by omega)).trans (h.z2 o), hz _ (by omega), hz _ (by omega), hz _ (by omega)⟩
theorem PI.rest_ {n : Int} {gR gr gc : Nat} {w W wr : World} {rest : List UInt8} {acc : List Ro} {V : Value} (h : PI n gR gr gc w W wr rest acc V) (rest2 : List UInt8) :
    PI n gR gr gc w (W.setCell ⟨gr, 0, none⟩ (.string ⟨rest2.toArray⟩)) (wr.setCell ⟨gr, 0, none⟩ (.string ⟨rest2.toArray⟩)) rest2 acc V := by
  obtain ⟨l0, l1, l2, l3⟩ := h.lt
  refine ⟨Below.setCell h.e0 (by simp only; omega) _, h.e1.set2 (by simp only; omega) _, ?_, ?_, World.cell?_setCell_same _ _ _ h.s0, ?_, ?_, fun o => (World.frozen?_setCell _ _ _ _).trans (h.z0 o), fun o => (World.frozen?_setCell _ _ _ _).trans (h.z1 o), fun o => (World.frozen?_setCell _ _ _ _).trans (h.z2 o), ⟨l0, l1, l2, by simpa using l3⟩, ?_⟩
  · rw [World.cell?_setCell_other _ _ _ _ (by intro e; cases e; omega)]; exact h.r0
  · rw [World.cell?_setCell_other _ _ _ _ (by intro e; cases e)]; exact h.r1
  · rw [World.cell?_setCell_other _ _ _ _ (by intro e; cases e; omega)]; exact h.c0
  · rw [World.cell?_setCell_other _ _ _ _ (by intro e; cases e)]; exact h.c1
  · have h9 := h.own.set (p := ⟨gr, 0, none⟩) (by simp only; omega) (.string ⟨rest2.toArray⟩)
    simpa using h9
theorem PI.rows_ {n : Int} {gR gr gc : Nat} {w W wr wx : World} {rest : List UInt8} {acc acc2 : List Ro} {V V2 : Value} (h : PI n gR gr gc w W wr rest acc V) (hb : Ext W wx) (ho : OwnR wx W.heap.size 46 V2 acc2.length acc2) :
    PI n gR gr gc w (W.setCell ⟨gc, 1, none⟩ V2) (wx.setCell ⟨gc, 1, none⟩ V2) rest acc2 V2 := by
  obtain ⟨l0, l1, l2, l3⟩ := h.lt
  refine ⟨Below.setCell h.e0 (by simp only; omega) _, hb.set2 (by simp only; omega) _, ?_, ?_, ?_, ?_, World.cell?_setCell_same _ _ _ h.c1, fun o => (World.frozen?_setCell _ _ _ _).trans (h.z0 o), fun o => (World.frozen?_setCell _ _ _ _).trans (h.z1 o), fun o => (World.frozen?_setCell _ _ _ _).trans (h.z2 o), ⟨l0, l1, l2, by simpa using l3⟩, ?_⟩
  · rw [World.cell?_setCell_other _ _ _ _ (by intro e; cases e)]; exact h.r0
  · rw [World.cell?_setCell_other _ _ _ _ (by intro e; cases e; omega)]; exact h.r1
  · rw [World.cell?_setCell_other _ _ _ _ (by intro e; cases e)]; exact h.s0
  · rw [World.cell?_setCell_other _ _ _ _ (by intro e; cases e)]; exact h.c0
  · have h9 := ho.set (p := ⟨gc, 1, none⟩) (by simp only; omega) V2
    simpa using h9
theorem PI.start {n : Int} {l r0 : List UInt8} {w w2 w3 : World} {tc tb : TypeId} (h2 : Ext ((w.alloc (.cells #[.int .i64 0, .slice none 0 0] tc)).alloc (.cells #[.string ⟨l.toArray⟩] tb)) w2)
    (h3 : Ext (w2.setCell ⟨w.heap.size + 1, 0, none⟩ (.string ⟨r0.toArray⟩)) w3) :
    PI n w.heap.size (w.heap.size + 1) w3.heap.size w (w3.alloc (.cells #[.int .i64 n, .slice none 0 0] tc)) (w3.alloc (.cells #[.int .i64 n, .slice none 0 0] tc)) r0 [] (.slice none 0 0) := by
  obtain ⟨hc2, hf2, -⟩ := h2.facts
  have z2 := Below.size h2
  simp only [World.size_alloc] at hc2 hf2 z2
  obtain ⟨hc3, hf3, -⟩ := (h3.trans ((Ext.refl w3).alloc (.cells #[.int .i64 n, .slice none 0 0] tc))).facts
  have z3 := Below.size h3
  simp only [World.size_setCell] at hc3 hf3 z3
  have e0 : Ext w (w2.setCell ⟨w.heap.size + 1, 0, none⟩ (.string ⟨r0.toArray⟩)) := Below.setCell ((((Ext.refl w).alloc _).alloc _).trans h2) (by simp) _
  have k0 : ∀ o, w2.cell? ⟨w.heap.size, o, none⟩ = (w.alloc (.cells #[.int .i64 0, .slice none 0 0] tc)).cell? ⟨w.heap.size, o, none⟩ := fun o => by
    rw [hc2 _ _ (by omega)]
    exact Below.cell (p := ⟨w.heap.size, o, none⟩) ((Ext.refl (w.alloc (.cells #[.int .i64 0, .slice none 0 0] tc))).alloc _) (by simp)
  have k1 : w2.cell? ⟨w.heap.size + 1, 0, none⟩ = some (.string ⟨l.toArray⟩) := by
    rw [hc2 _ _ (by omega)]
    simp [go_sem]
  have f0 : ∀ o, w2.frozen? ⟨w.heap.size, o, none⟩ = false := fun o => by
    rw [hf2 _ _ (by omega)]
    simp [go_sem]
  have f1 : ∀ o, w2.frozen? ⟨w.heap.size + 1, o, none⟩ = false := fun o => by
    rw [hf2 _ _ (by omega)]
    simp [go_sem]
  refine ⟨(e0.trans h3).alloc _, Ext.refl _, ?_, ?_, ?_, by simp [go_sem], by simp [go_sem], fun o => ?_, fun o => ?_, fun o => by simp [go_sem], ⟨Nat.le_refl _, by omega, by omega, by simp⟩, OwnR.nil _ _ _⟩
  · rw [hc3 _ _ (by omega), World.cell?_setCell_other _ _ _ _ (by simp), k0]
    simp [go_sem]
  · rw [hc3 _ _ (by omega), World.cell?_setCell_other _ _ _ _ (by simp), k0]
    simp [go_sem]
  · rw [hc3 _ _ (by omega)]
    exact World.cell?_setCell_same _ _ _ k1
  · rw [hf3 _ _ (by omega), World.frozen?_setCell]
    exact f0 o
  · rw [hf3 _ _ (by omega), World.frozen?_setCell]
    exact f1 o
theorem PI.glt {n : Int} {gR gr gc : Nat} {w W wr : World} {rest : List UInt8} {acc : List Ro} {V : Value} (h : PI n gR gr gc w W wr rest acc V) : gR < W.heap.size := by
  have := h.lt
  omega
theorem PI.gle {n : Int} {gR gr gc : Nat} {w W wr : World} {rest : List UInt8} {acc : List Ro} {V : Value} (h : PI n gR gr gc w W wr rest acc V) : w.heap.size ≤ W.heap.size := by
  have := h.lt
  omega
theorem PI.gsz {n : Int} {gR gr gc : Nat} {w W wr : World} {rest : List UInt8} {acc : List Ro} {V : Value} (h : PI n gR gr gc w W wr rest acc V) : W.heap.size ≤ wr.heap.size := Below.size h.e1
def sizeS : Value → Nat
  | .string b => b.size
  | _ => 0
/-- how long the string in a cell is -/
def restN (g : Nat) (w : World) : Nat := match w.cell? ⟨g, 0, none⟩ with
  | some v => sizeS v
  | none => 0
theorem restN_of {g : Nat} {w : World} {l : List UInt8} (h : w.cell? ⟨g, 0, none⟩ = some (.string ⟨l.toArray⟩)) : restN g w = l.length := by
  unfold restN
  rw [h]
  exact str_size l
end Go.Proofs.YtjjhoonkooihjaaGreatDoor
