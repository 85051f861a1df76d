/- The contracts of Join of charts, both. -/
import Derived.Test.YtjjhoonkooihjaaChartV
import Derived.Test.YtjjhoonkooihjaaChartT
namespace Go.Proofs.Ytjjhoonkooihjaa
open Go.RowKit Go.ChangeShapes Go.WideShapes Go.Joins
/-- a call has returned a chart, made by itself, and an error -/
def ChR (s : Int) (l : List Ro) (x : Int) (w : World) (e : Ending) (w' : World) : Prop := ∃ (A : Option Addr) (n c : Nat), e = .returned (.tuple #[.agg #[.int .i64 s, .slice A n c], .int .i64 x]) ∧ Ext w w' ∧ Rws w' (fun b => w.heap.size ≤ b) A n l
/-- the last count -/
def lastC (s : Int) (l : List Ro) : Int := (cntC s l).getD l.length 0
/-- the error of Join -/
def joinE (s : Int) (l : List Ro) (t : Int) (r : List Ro) : Int := if chkC s l ≠ 0 then chkC s l else if chkC t r ≠ 0 then chkC t r else if lastC s l ≠ t then 26 else if 100 < l.length + r.length then 4 else 0
/-- what Join returns -/
def JoinR (s : Int) (l : List Ro) (t : Int) (r : List Ro) (w : World) : Ending → World → Prop := ChR (if joinE s l t r = 0 then s else 0) (if joinE s l t r = 0 then l ++ r else []) (joinE s l t r) w
theorem JoinR.no {s : Int} {l : List Ro} {t : Int} {r : List Ro} {w w' : World} {e : Ending} {x : Int} (hx : joinE s l t r = x) (h0 : x ≠ 0) (h : e = .returned (.tuple #[.agg #[.int .i64 0, .slice none 0 0], .int .i64 x])) (hb : Ext w w') : JoinR s l t r w e w' := by
  unfold JoinR
  rw [hx, if_neg h0, if_neg h0]
  exact ⟨none, 0, 0, h, hb, Rws.none_ _ _ _⟩
theorem JoinR.yes {s : Int} {l : List Ro} {t : Int} {r : List Ro} {w w' : World} {e : Ending} {A : Option Addr} {n c : Nat} (hx : joinE s l t r = 0) (h : e = .returned (.tuple #[.agg #[.int .i64 s, .slice A n c], .int .i64 0])) (hb : Ext w w') (hr : Rws w' (fun b => w.heap.size ≤ b) A n (l ++ r)) : JoinR s l t r w e w' := by
  unfold JoinR
  rw [hx, if_pos rfl, if_pos rfl]
  exact ⟨A, n, c, h, hb, hr⟩
theorem chk_cells {s : Int} {l : List Ro} (h : chkC s l = 0) : l.length ≤ 100 ∧ ∀ k, k < l.length → (l.getD k ro0).cells.length ≤ 1000 := by
  refine ⟨(chkC_ok h).1, fun k hk => ?_⟩
  have := (allE_e (chkGo_ok (chkC_ok h).2.2.2 k hk).1).1
  omega
theorem last_at {s : Int} {l : List Ro} {w : World} {A : Option Addr} {n : Nat} (h : Ints w A n (cntC s l)) : n = l.length + 1 ∧ ∃ b off, A = some ⟨b, off, none⟩ ∧ b < w.heap.size ∧ w.cell? ⟨b, off + l.length, none⟩ = some (.int .i64 (lastC s l)) := by
  have hn : n = l.length + 1 := by rw [← h.1, cntC_len]
  obtain ⟨b, off, e, hb, hc⟩ := h.2 (by omega)
  exact ⟨hn, b, off, e, hb, hc l.length (by omega)⟩
theorem join_1 {s t : Int} {l r : List Ro} (h : chkC s l ≠ 0) : joinE s l t r = chkC s l := by rw [joinE, if_pos h]
theorem join_2 {s t : Int} {l r : List Ro} (h : chkC s l = 0) (h2 : chkC t r ≠ 0) : joinE s l t r = chkC t r := by rw [joinE, if_neg (by simpa using h), if_pos h2]
theorem join_3 {s t : Int} {l r : List Ro} (h : chkC s l = 0) (h2 : chkC t r = 0) (h3 : lastC s l ≠ t) : joinE s l t r = 26 := by rw [joinE, if_neg (by simpa using h), if_neg (by simpa using h2), if_pos h3]
theorem join_4 {s t : Int} {l r : List Ro} (h : chkC s l = 0) (h2 : chkC t r = 0) (h3 : lastC s l = t) (h4 : 100 < l.length + r.length) : joinE s l t r = 4 := by rw [joinE, if_neg (by simpa using h), if_neg (by simpa using h2), if_neg (by simpa using h3), if_pos h4]
theorem join_0 {s t : Int} {l r : List Ro} (h : chkC s l = 0) (h2 : chkC t r = 0) (h3 : lastC s l = t) (h4 : ¬ 100 < l.length + r.length) : joinE s l t r = 0 := by rw [joinE, if_neg (by simpa using h), if_neg (by simpa using h2), if_neg (by simpa using h3), if_neg h4]
theorem CntR.out_ok {s : Int} {l : List Ro} {w w' : World} {e : Ending} (h : CntR s l w e w') (h0 : chkC s l = 0) : ∃ (A : Option Addr) (n c : Nat), e = .returned (.tuple #[.slice A n c, .int .i64 0]) ∧ Ext w w' ∧ Ints w' A n (cntC s l) ∧ ∀ b off, A = some ⟨b, off, none⟩ → w.heap.size ≤ b := by
  obtain ⟨A, n, c, h1, h2, h3⟩ := h
  rw [h0] at h1
  obtain ⟨h3, h4⟩ := h3
  rw [if_pos h0] at h3
  exact ⟨A, n, c, h1, h2, h3, h4⟩
theorem CntR.out_no {s : Int} {l : List Ro} {w w' : World} {e : Ending} (h : CntR s l w e w') : ∃ (A : Option Addr) (n c : Nat), e = .returned (.tuple #[.slice A n c, .int .i64 (chkC s l)]) ∧ Ext w w' := by
  obtain ⟨A, n, c, h1, h2, h3⟩ := h
  exact ⟨A, n, c, h1, h2⟩
theorem res_cells {w : World} {g : Nat} {u0 u1 v0 v1 : Value} (h0 : w.cell? ⟨g, 0, none⟩ = some u0) (h1 : w.cell? ⟨g, 1, none⟩ = some u1) : (w.setCell ⟨g, 0, none⟩ v0).cell? ⟨g, 0, none⟩ = some v0 ∧ ((w.setCell ⟨g, 0, none⟩ v0).setCell ⟨g, 1, none⟩ v1).cell? ⟨g, 1, none⟩ = some v1 :=
  ⟨World.cell?_setCell_same w ⟨g, 0, none⟩ v0 h0, World.cell?_setCell_same _ ⟨g, 1, none⟩ v1 ((World.cell?_setCell_other w ⟨g, 0, none⟩ ⟨g, 1, none⟩ v0 (by simp)).trans h1)⟩
theorem res_rws {w : World} {g B B' n : Nat} {A : Option Addr} {l : List Ro} {v0 v1 : Value} (h : Rws w (fun b => B ≤ b) A n l) (hg : g < B) (hB : B' ≤ B) : Rws ((w.setCell ⟨g, 0, none⟩ v0).setCell ⟨g, 1, none⟩ v1) (fun b => B' ≤ b) A n l := by
  refine h.keep (Nat.le_of_eq (by simp)) fun b hb hk => ⟨Nat.le_trans hB hk, fun o => ?_⟩
  have hk' : B ≤ b := hk
  have hne : ¬ (b = g) := by omega
  rw [World.cell?_setCell_other _ ⟨g, 1, none⟩ ⟨b, o, none⟩ v1 (by simp <;> omega), World.cell?_setCell_other _ ⟨g, 0, none⟩ ⟨b, o, none⟩ v0 (by simp <;> omega)]
set_option maxRecDepth 100000 in
set_option maxHeartbeats 8000000 in
theorem cjoin_any (s t : Int) (A B : Option Addr) (m n c d : Nat) (la lb : List Ro) (w : World) (ha : Rws w (fun _ => True) A m la) (hbb : Rws w (fun _ => True) B n lb) :
    Calls Try.prog 8 #[.agg #[.int .i64 s, .slice A m c], .agg #[.int .i64 t, .slice B n d]] w (JoinR s la t lb w) := by
  have hla := ha.len
  have hlb := hbb.len
  have HA := Lib.hid ha
  have HB := Lib.hid hbb
  have HLA := Lib.hid hla
  have HLB := Lib.hid hlb
  clear ha hbb hla hlb
  have hB0 := Lib.hid (show Ext w (((w.alloc (.cells #[.int .i64 s, .slice A m c] 24)).alloc (.cells #[.int .i64 t, .slice B n d] 24)).alloc (.cells #[.int .i64 0, .slice none 0 0] 24)) from (((Ext.refl _).alloc _).alloc _).alloc _)
  have hb : Ext (((w.alloc (.cells #[.int .i64 s, .slice A m c] 24)).alloc (.cells #[.int .i64 t, .slice B n d] 24)).alloc (.cells #[.int .i64 0, .slice none 0 0] 24)) (((w.alloc (.cells #[.int .i64 s, .slice A m c] 24)).alloc (.cells #[.int .i64 t, .slice B n d] 24)).alloc (.cells #[.int .i64 0, .slice none 0 0] 24)) := Ext.refl _
  have hlt2 : w.heap.size < w.heap.size + 1 + 1 + 1 := by omega
  have hlt3 : w.heap.size + 1 < w.heap.size + 1 + 1 + 1 := by omega
  have hlt4 : w.heap.size + 1 + 1 < w.heap.size + 1 + 1 + 1 := by omega
  obtain ⟨hc, hf, hz⟩ := hb.facts
  have HU0 := Lib.hid (fun (w' : World) (h : Ext (((w.alloc (.cells #[.int .i64 s, .slice A m c] 24)).alloc (.cells #[.int .i64 t, .slice B n d] 24)).alloc (.cells #[.int .i64 0, .slice none 0 0] 24)) w') => (show w'.cell? ⟨w.heap.size + 1 + 1, 0, none⟩ = some (.int .i64 0) by rw [(Ext.facts h).1 _ _ (by simp only [World.size_alloc]; omega)]; simp [go_sem]))
  have HU1 := Lib.hid (fun (w' : World) (h : Ext (((w.alloc (.cells #[.int .i64 s, .slice A m c] 24)).alloc (.cells #[.int .i64 t, .slice B n d] 24)).alloc (.cells #[.int .i64 0, .slice none 0 0] 24)) w') => (show w'.cell? ⟨w.heap.size + 1 + 1, 1, none⟩ = some (.slice none 0 0) by rw [(Ext.facts h).1 _ _ (by simp only [World.size_alloc]; omega)]; simp [go_sem]))
  by_cases h1 : chkC s la = 0
  case neg =>
    have HJ := Lib.hid (join_1 (t := t) (r := lb) h1)
    have HC1 := Lib.hid h1
    have hne : (chkC s la != 0) = true := by simpa using h1
    clear h1
    go_enter Try.func8, Try.ntmps8
    go_wp2_with (first | (go_at_call 11; ((with_reducible refine (ccounts_any s A m c la _ (HA.out.ext (hB0.out.trans (hb.trans (by repeat (first | exact Ext.refl _ | refine Ext.drew ?_ | refine Ext.drewN ?_ _ | refine Ext.alloc ?_ _)))))).mono ?_); intro e w1 hr1; obtain ⟨A1, n1, c1, rfl, hq1⟩ := hr1.out_no; replace hb := Ext.via hb hq1 (by repeat (first | exact Ext.refl _ | refine Ext.drew ?_ | refine Ext.drewN ?_ _ | refine Ext.alloc ?_ _)); clear hq1; obtain ⟨hc, hf, hz⟩ := hb.facts)))
    obtain ⟨k0, k1⟩ := res_cells (v0 := .int .i64 0) (v1 := .slice none 0 0) (HU0.out _ hb) (HU1.out _ hb)
    have HX9 := Lib.hid (hB0.out.trans hb)
    clear hc hf hz
    exact bodyPost_ret (v := .tuple #[.agg #[.int .i64 0, .slice none 0 0], .int .i64 (chkC s la)]) (by simp [results, Try.f8, go_sem, k0, k1]) rfl (JoinR.no HJ.out HC1.out rfl (Below.setCell (Below.setCell HX9.out (by simp; omega) _) (by simp; omega) _))
  have HC1 := Lib.hid h1
  by_cases h2 : chkC t lb = 0
  case neg =>
    have HJ := Lib.hid (join_2 h1 h2)
    have hne : (chkC t lb != 0) = true := by simpa using h2
    have HC9 := Lib.hid h2
    generalize hx2 : chkC t lb = x2 at *
    have HC2 := Lib.hid hx2
    clear h1 h2 hx2
    go_enter Try.func8, Try.ntmps8
    go_wp2_with (first | (go_at_call 11; ((with_reducible refine (ccounts_any s A m c la _ (HA.out.ext (hB0.out.trans (hb.trans (by repeat (first | exact Ext.refl _ | refine Ext.drew ?_ | refine Ext.drewN ?_ _ | refine Ext.alloc ?_ _)))))).mono ?_); intro e w1 hr1; obtain ⟨A1, n1, c1, rfl, hq1, hi1, hfr1⟩ := hr1.out_ok HC1.out; clear hfr1; replace hb := Ext.via hb hq1 (by repeat (first | exact Ext.refl _ | refine Ext.drew ?_ | refine Ext.drewN ?_ _ | refine Ext.alloc ?_ _)); clear hq1; obtain ⟨hc, hf, hz⟩ := hb.facts; obtain ⟨rfl, b1, o1, rfl, hb1, hl1⟩ := last_at hi1; have HL1 := Lib.hid hl1; clear hi1 hl1 hr1)) | (go_at_call 13; ((with_reducible refine (ccheck_any t B n d lb _ (HB.out.ext (hB0.out.trans (hb.trans (by repeat (first | exact Ext.refl _ | refine Ext.drew ?_ | refine Ext.drewN ?_ _ | refine Ext.alloc ?_ _)))))).mono ?_); rintro e w2 ⟨rfl, hq2⟩; have hl2 := (Below.cell (p := ⟨b1, o1 + la.length, none⟩) (Ext.trans (by repeat (first | exact Ext.refl _ | refine Ext.drew ?_ | refine Ext.drewN ?_ _ | refine Ext.alloc ?_ _)) hq2) hb1).trans HL1.out; have hb2 : b1 < w2.heap.size := Nat.lt_of_lt_of_le hb1 (Below.size (Ext.trans (by repeat (first | exact Ext.refl _ | refine Ext.drew ?_ | refine Ext.drewN ?_ _ | refine Ext.alloc ?_ _)) hq2)); replace hb := Ext.via hb hq2 (by repeat (first | exact Ext.refl _ | refine Ext.drew ?_ | refine Ext.drewN ?_ _ | refine Ext.alloc ?_ _)); clear hq2; obtain ⟨hc, hf, hz⟩ := hb.facts; rw [HC2.out])))
    obtain ⟨k0, k1⟩ := res_cells (v0 := .int .i64 0) (v1 := .slice none 0 0) (HU0.out _ hb) (HU1.out _ hb)
    have HX9 := Lib.hid (hB0.out.trans hb)
    clear hc hf hz
    exact bodyPost_ret (v := .tuple #[.agg #[.int .i64 0, .slice none 0 0], .int .i64 x2]) (by simp [results, Try.f8, go_sem, k0, k1]) rfl (JoinR.no HJ.out HC9.out rfl (Below.setCell (Below.setCell HX9.out (by simp; omega) _) (by simp; omega) _))
  have HC2 := Lib.hid h2
  by_cases h3 : lastC s la = t
  case neg =>
    have HJ := Lib.hid (join_3 h1 h2 h3)
    have hne : (lastC s la != t) = true := by simpa using h3
    clear h1 h2 h3
    go_enter Try.func8, Try.ntmps8
    go_wp2_with (first | (go_at_call 11; ((with_reducible refine (ccounts_any s A m c la _ (HA.out.ext (hB0.out.trans (hb.trans (by repeat (first | exact Ext.refl _ | refine Ext.drew ?_ | refine Ext.drewN ?_ _ | refine Ext.alloc ?_ _)))))).mono ?_); intro e w1 hr1; obtain ⟨A1, n1, c1, rfl, hq1, hi1, hfr1⟩ := hr1.out_ok HC1.out; clear hfr1; replace hb := Ext.via hb hq1 (by repeat (first | exact Ext.refl _ | refine Ext.drew ?_ | refine Ext.drewN ?_ _ | refine Ext.alloc ?_ _)); clear hq1; obtain ⟨hc, hf, hz⟩ := hb.facts; obtain ⟨rfl, b1, o1, rfl, hb1, hl1⟩ := last_at hi1; have HL1 := Lib.hid hl1; clear hi1 hl1 hr1)) | (go_at_call 13; ((with_reducible refine (ccheck_any t B n d lb _ (HB.out.ext (hB0.out.trans (hb.trans (by repeat (first | exact Ext.refl _ | refine Ext.drew ?_ | refine Ext.drewN ?_ _ | refine Ext.alloc ?_ _)))))).mono ?_); rintro e w2 ⟨rfl, hq2⟩; have hl2 := (Below.cell (p := ⟨b1, o1 + la.length, none⟩) (Ext.trans (by repeat (first | exact Ext.refl _ | refine Ext.drew ?_ | refine Ext.drewN ?_ _ | refine Ext.alloc ?_ _)) hq2) hb1).trans HL1.out; have hb2 : b1 < w2.heap.size := Nat.lt_of_lt_of_le hb1 (Below.size (Ext.trans (by repeat (first | exact Ext.refl _ | refine Ext.drew ?_ | refine Ext.drewN ?_ _ | refine Ext.alloc ?_ _)) hq2)); replace hb := Ext.via hb hq2 (by repeat (first | exact Ext.refl _ | refine Ext.drew ?_ | refine Ext.drewN ?_ _ | refine Ext.alloc ?_ _)); clear hq2; obtain ⟨hc, hf, hz⟩ := hb.facts; rw [HC2.out])))
    have p0 : (0 : Int) ≤ (la.length : Int) := by omega
    have p1 : (la.length : Int) < (la.length : Int) + 1 := by omega
    have p2 := IntWalk.i64_in (la.length : Int) (by have := (chk_cells HC1.out).1; omega)
    have p3 := hc w.heap.size 0 (by simp only [World.size_alloc]; omega)
    go_quiet (fail)
    clear p2
    go_wp2
    obtain ⟨k0, k1⟩ := res_cells (v0 := .int .i64 0) (v1 := .slice none 0 0) (HU0.out _ (Ext.drewN hb nq)) (HU1.out _ (Ext.drewN hb nq))
    have HX9 := Lib.hid (hB0.out.trans hb)
    clear hc hf hz
    exact bodyPost_ret (v := .tuple #[.agg #[.int .i64 0, .slice none 0 0], .int .i64 26]) (by simp [results, Try.f8, go_sem, k0, k1]) rfl (JoinR.no HJ.out (by omega) rfl (Below.setCell (Below.setCell (Ext.drewN HX9.out _) (by simp; omega) _) (by simp; omega) _))
  by_cases h4 : 100 < la.length + lb.length
  case pos =>
    have HJ := Lib.hid (join_4 h1 h2 h3 h4)
    have hne : (lastC s la != t) = false := by simpa using h3
    have hsm : (100 : Int) < (m : Int) + (n : Int) := by rw [← HLA.out, ← HLB.out]; omega
    have hmn1 : (m : Int) ≤ 100 := by rw [← HLA.out]; have := (chk_cells h1).1; omega
    have hmn2 : (n : Int) ≤ 100 := by rw [← HLB.out]; have := (chk_cells h2).1; omega
    clear h1 h2 h3 h4
    go_enter Try.func8, Try.ntmps8
    go_wp2_with (first | (go_at_call 11; ((with_reducible refine (ccounts_any s A m c la _ (HA.out.ext (hB0.out.trans (hb.trans (by repeat (first | exact Ext.refl _ | refine Ext.drew ?_ | refine Ext.drewN ?_ _ | refine Ext.alloc ?_ _)))))).mono ?_); intro e w1 hr1; obtain ⟨A1, n1, c1, rfl, hq1, hi1, hfr1⟩ := hr1.out_ok HC1.out; clear hfr1; replace hb := Ext.via hb hq1 (by repeat (first | exact Ext.refl _ | refine Ext.drew ?_ | refine Ext.drewN ?_ _ | refine Ext.alloc ?_ _)); clear hq1; obtain ⟨hc, hf, hz⟩ := hb.facts; obtain ⟨rfl, b1, o1, rfl, hb1, hl1⟩ := last_at hi1; have HL1 := Lib.hid hl1; clear hi1 hl1 hr1)) | (go_at_call 13; ((with_reducible refine (ccheck_any t B n d lb _ (HB.out.ext (hB0.out.trans (hb.trans (by repeat (first | exact Ext.refl _ | refine Ext.drew ?_ | refine Ext.drewN ?_ _ | refine Ext.alloc ?_ _)))))).mono ?_); rintro e w2 ⟨rfl, hq2⟩; have hl2 := (Below.cell (p := ⟨b1, o1 + la.length, none⟩) (Ext.trans (by repeat (first | exact Ext.refl _ | refine Ext.drew ?_ | refine Ext.drewN ?_ _ | refine Ext.alloc ?_ _)) hq2) hb1).trans HL1.out; have hb2 : b1 < w2.heap.size := Nat.lt_of_lt_of_le hb1 (Below.size (Ext.trans (by repeat (first | exact Ext.refl _ | refine Ext.drew ?_ | refine Ext.drewN ?_ _ | refine Ext.alloc ?_ _)) hq2)); replace hb := Ext.via hb hq2 (by repeat (first | exact Ext.refl _ | refine Ext.drew ?_ | refine Ext.drewN ?_ _ | refine Ext.alloc ?_ _)); clear hq2; obtain ⟨hc, hf, hz⟩ := hb.facts; rw [HC2.out])))
    have p0 : (0 : Int) ≤ (la.length : Int) := by omega
    have p1 : (la.length : Int) < (la.length : Int) + 1 := by omega
    have p2 := IntWalk.i64_in (la.length : Int) (by have := (chk_cells HC1.out).1; omega)
    have p3 := hc w.heap.size 0 (by simp only [World.size_alloc]; omega)
    go_quiet (fail)
    clear p2
    go_wp2
    obtain ⟨k0, k1⟩ := res_cells (v0 := .int .i64 0) (v1 := .slice none 0 0) (HU0.out _ (Ext.drewN hb nq)) (HU1.out _ (Ext.drewN hb nq))
    have HX9 := Lib.hid (hB0.out.trans hb)
    clear hc hf hz
    exact bodyPost_ret (v := .tuple #[.agg #[.int .i64 0, .slice none 0 0], .int .i64 4]) (by simp [results, Try.f8, go_sem, k0, k1]) rfl (JoinR.no HJ.out (by omega) rfl (Below.setCell (Below.setCell (Ext.drewN HX9.out _) (by simp; omega) _) (by simp; omega) _))
  have HJ := Lib.hid (join_0 h1 h2 h3 h4)
  have hne : (lastC s la != t) = false := by simpa using h3
  have hsm : decide ((100 : Int) < (m : Int) + (n : Int)) = false := by simp; rw [← HLA.out, ← HLB.out]; omega
  have hmn1 : (m : Int) ≤ 100 := by rw [← HLA.out]; have := (chk_cells h1).1; omega
  have hmn2 : (n : Int) ≤ 100 := by rw [← HLB.out]; have := (chk_cells h2).1; omega
  have HCA := Lib.hid (show ∀ k, k < m → (la.getD k ro0).cells.length ≤ 1000 by rw [← HLA.out]; exact (chk_cells h1).2)
  have HCB := Lib.hid (show ∀ k, k < n → (lb.getD k ro0).cells.length ≤ 1000 by rw [← HLB.out]; exact (chk_cells h2).2)
  clear h1 h2 h3 h4
  go_enter Try.func8, Try.ntmps8
  go_wp2_with (first | (go_at_call 11; ((with_reducible refine (ccounts_any s A m c la _ (HA.out.ext (hB0.out.trans (hb.trans (by repeat (first | exact Ext.refl _ | refine Ext.drew ?_ | refine Ext.drewN ?_ _ | refine Ext.alloc ?_ _)))))).mono ?_); intro e w1 hr1; obtain ⟨A1, n1, c1, rfl, hq1, hi1, hfr1⟩ := hr1.out_ok HC1.out; clear hfr1; replace hb := Ext.via hb hq1 (by repeat (first | exact Ext.refl _ | refine Ext.drew ?_ | refine Ext.drewN ?_ _ | refine Ext.alloc ?_ _)); clear hq1; obtain ⟨hc, hf, hz⟩ := hb.facts; obtain ⟨rfl, b1, o1, rfl, hb1, hl1⟩ := last_at hi1; have HL1 := Lib.hid hl1; clear hi1 hl1 hr1)) | (go_at_call 13; ((with_reducible refine (ccheck_any t B n d lb _ (HB.out.ext (hB0.out.trans (hb.trans (by repeat (first | exact Ext.refl _ | refine Ext.drew ?_ | refine Ext.drewN ?_ _ | refine Ext.alloc ?_ _)))))).mono ?_); rintro e w2 ⟨rfl, hq2⟩; have hl2 := (Below.cell (p := ⟨b1, o1 + la.length, none⟩) (Ext.trans (by repeat (first | exact Ext.refl _ | refine Ext.drew ?_ | refine Ext.drewN ?_ _ | refine Ext.alloc ?_ _)) hq2) hb1).trans HL1.out; have hb2 : b1 < w2.heap.size := Nat.lt_of_lt_of_le hb1 (Below.size (Ext.trans (by repeat (first | exact Ext.refl _ | refine Ext.drew ?_ | refine Ext.drewN ?_ _ | refine Ext.alloc ?_ _)) hq2)); replace hb := Ext.via hb hq2 (by repeat (first | exact Ext.refl _ | refine Ext.drew ?_ | refine Ext.drewN ?_ _ | refine Ext.alloc ?_ _)); clear hq2; obtain ⟨hc, hf, hz⟩ := hb.facts; rw [HC2.out])))
  have p0 : (0 : Int) ≤ (la.length : Int) := by omega
  have p1 : (la.length : Int) < (la.length : Int) + 1 := by omega
  have p2 := IntWalk.i64_in (la.length : Int) (by have := (chk_cells HC1.out).1; omega)
  go_quiet (fail)
  clear p2 p0 p1 hl2
  go_wp2_with fail
  have hb3 : Ext (((w.alloc (.cells #[.int .i64 s, .slice A m c] 24)).alloc (.cells #[.int .i64 t, .slice B n d] 24)).alloc (.cells #[.int .i64 0, .slice none 0 0] 24)) (w2.drewN nq) := Ext.drewN hb nq
  obtain ⟨wq, hwq⟩ : ∃ wq, w2.drewN nq = wq := ⟨_, rfl⟩
  rw [hwq] at hb3 ⊢
  clear hwq hb hc hf hz
  have hb := hb3
  clear hb3
  have HBQ := Lib.hid hb
  obtain ⟨hc, hf, hz⟩ := hb.facts
  have k0 := HU0.out _ hb
  have k1 := HU1.out _ hb
  have k2 : wq.frozen? ⟨w.heap.size + 1 + 1, 0, none⟩ = false := by rw [hf _ _ (by simp only [World.size_alloc]; omega)]; simp [go_sem]
  have k3 : wq.frozen? ⟨w.heap.size + 1 + 1, 1, none⟩ = false := by rw [hf _ _ (by simp only [World.size_alloc]; omega)]; simp [go_sem]
  have m0 : wq.cell? ⟨w.heap.size, 0, none⟩ = some (.int .i64 s) := by rw [hc _ _ (by simp only [World.size_alloc]; omega)]; simp [go_sem]
  have m1 : wq.cell? ⟨w.heap.size, 1, none⟩ = some (.slice A m c) := by rw [hc _ _ (by simp only [World.size_alloc]; omega)]; simp [go_sem]
  have m2 : wq.cell? ⟨w.heap.size + 1, 1, none⟩ = some (.slice B n d) := by rw [hc _ _ (by simp only [World.size_alloc]; omega)]; simp [go_sem]
  have hz9 : w.heap.size + 1 + 1 + 1 ≤ wq.heap.size := by have h9 := Below.size hb; simp only [World.size_alloc] at h9; omega
  have z0 : w.heap.size < wq.heap.size := by omega
  have z1 : w.heap.size + 1 < wq.heap.size := by omega
  have z2 : w.heap.size + 1 + 1 < wq.heap.size := by omega
  clear hc hf hz hlt2 hlt3 hlt4
  have q1 : ¬ (w.heap.size = w.heap.size + 1 + 1) := by omega
  have q2 : ¬ (w.heap.size + 1 + 1 = w.heap.size) := by omega
  go_region_held3 (fun w' => w'.cell? ⟨w.heap.size, 0, none⟩ = some (.int .i64 s) ∧ w'.cell? ⟨w.heap.size, 1, none⟩ = some (.slice A m c) ∧ w'.cell? ⟨w.heap.size + 1, 1, none⟩ = some (.slice B n d)) (go_keep)
    (first
      | (go_at_call 25; (first
          | ((with_reducible refine (ctwin_any A m c la _ (HA.out.ext (hB0.out.trans (hb.trans (by repeat (first | exact Ext.refl _ | refine Ext.drew ?_ | refine Ext.drewN ?_ _ | refine Ext.alloc ?_ _))))) (by omega) HCA.out).mono ?_); rintro e w4 ⟨V1, rfl, hq4, ho4⟩; have HE4 := Lib.hid (show Ext wq w4 from Ext.trans (by repeat (first | exact Ext.refl _ | refine Ext.drew ?_ | refine Ext.drewN ?_ _ | refine Ext.alloc ?_ _)) hq4); replace hb := HBQ.out.trans HE4.out; clear hq4; obtain ⟨hc, hf, hz⟩ := HE4.out.facts; have HO4 := Lib.hid (show OwnR w4 wq.heap.size 34 V1 la.length la from ho4); clear ho4)
          | ((with_reducible refine (ctwin_any B n d lb _ (HB.out.ext (hB0.out.trans (hb.trans (by repeat (first | exact Ext.refl _ | refine Ext.drew ?_ | refine Ext.drewN ?_ _ | refine Ext.alloc ?_ _))))) (by omega) HCB.out).mono ?_); rintro e w5 ⟨V2, rfl, hq5, ho5⟩; have HE5 := Lib.hid (show Ext w4 w5 from Ext.trans (by repeat (first | exact Ext.refl _ | refine Ext.drew ?_ | refine Ext.drewN ?_ _ | refine Ext.alloc ?_ _)) hq5); replace hb := HBQ.out.trans (HE4.out.trans HE5.out); clear hq5; obtain ⟨hc, hf, hz⟩ := (HE4.out.trans HE5.out).facts; obtain ⟨ys, hy1, hy2⟩ := ho5; obtain ⟨A2, c2, rfl, hv2, hbl2⟩ := own_vecB hy1; have HV2 := Lib.hid hv2; have HY2 := Lib.hid (hy2.keep (K' := Kr w5 wq.heap.size V1) (Nat.le_refl _) (fun b _ hk9 => ⟨⟨Nat.le_trans (Below.size HE4.out) hk9.1, fun e9 => by have h8 := (HO4.out.blk b e9.symm).2; have h7 := hk9.1; exact absurd h8 (Nat.not_lt.2 h7), hk9.2.2⟩, fun _ => rfl⟩)); clear hy1 hy2 hv2 hbl2)))
      | (refine step_append_rws (w := wq) (t := la) (r := lb) (ys := ys) 22 34 (.agg #[.bool false, .slice none 0 0]) 32 (by rfl) (by rfl) Try.underlying22 info_row (by rfl) (by omega) (by rfl) (by rfl) (HO4.out.ext (HE5.out.trans (by repeat (first | exact Ext.refl _ | refine Ext.drew ?_ | refine Ext.drewN ?_ _ | refine Ext.alloc ?_ _)))) (HE4.out.trans (HE5.out.trans (by repeat (first | exact Ext.refl _ | refine Ext.drew ?_ | refine Ext.drewN ?_ _ | refine Ext.alloc ?_ _)))) (HV2.out.ext (by repeat (first | exact Ext.refl _ | refine Ext.drew ?_ | refine Ext.drewN ?_ _ | refine Ext.alloc ?_ _))) (HY2.out.keep (Below.size (by repeat (first | exact Ext.refl _ | refine Ext.drew ?_ | refine Ext.drewN ?_ _ | refine Ext.alloc ?_ _))) (fun b hb9 hk9 => ⟨⟨hk9.1, hk9.2.1, fun o9 => (Ext.frozenAt (by repeat (first | exact Ext.refl _ | refine Ext.drew ?_ | refine Ext.drewN ?_ _ | refine Ext.alloc ?_ _)) ⟨b, o9, none⟩ hb9).trans (hk9.2.2 o9)⟩, fun o9 => Below.cell (p := ⟨b, o9, none⟩) (by repeat (first | exact Ext.refl _ | refine Ext.drew ?_ | refine Ext.drewN ?_ _ | refine Ext.alloc ?_ _)) hb9⟩)) (by rw [HLA.out, HLB.out]; omega) ?_; intro v' w6 hown6 hext6; obtain ⟨A6, c6, rfl, hr6⟩ := own_rws hown6 (by rw [HLA.out, HLB.out]; omega); have HR6 := Lib.hid hr6; clear hr6; have hb6 := HBQ.out.trans hext6.out; obtain ⟨hh1, hh2, hh3⟩ := hext6.out.facts))
  go_wp2
  obtain ⟨y0, y1⟩ := res_cells (v0 := .int .i64 s) (v1 := .slice A6 (la.length + lb.length) c6) (HU0.out w6 hb6) (HU1.out w6 hb6)
  have HX9 := Lib.hid (hB0.out.trans hb6)
  have HR9 := Lib.hid (res_rws (g := w.heap.size + 1 + 1) (v0 := .int .i64 s) (v1 := .slice A6 (la.length + lb.length) c6) HR6.out z2 (by omega : w.heap.size ≤ wq.heap.size))
  exact bodyPost_ret (v := .tuple #[.agg #[.int .i64 s, .slice A6 (la.length + lb.length) c6], .int .i64 0]) (by simp [results, Try.f8, go_sem, y0, y1]) rfl (JoinR.yes HJ.out rfl (Below.setCell (Below.setCell HX9.out (by simp; omega) _) (by simp; omega) _) HR9.out)
end Go.Proofs.Ytjjhoonkooihjaa
