/- The contracts of Join of charts, both. -/
import Derived.Test.YtfhecgipfhhchaaChartV
import Derived.Test.YtfhecgipfhhchaaChartT
namespace Go.Proofs.Ytfhecgipfhhchaa
set_option maxRecDepth 100000
open Go.RowKit Go.ChangeShapes Go.WideShapes Go.Joins
/-- a call has returned a chart, made by itself, and an error -/
def ChR (s : Int) (l : List Ro) (x : Int) (w : World) (e : Ending) (w' : World) : Prop := ∃ (A : Option Addr) (n c : Nat), e = .returned (.tuple #[.agg #[.int .i64 s, .slice A n c], .int .i64 x]) ∧ Ext w w' ∧ Rws w' (fun b => w.heap.size ≤ b) A n l
/-- the last count -/
def lastC (s : Int) (l : List Ro) : Int := (cntC s l).getD l.length 0
/-- the error of Join -/
def joinE (s : Int) (l : List Ro) (t : Int) (r : List Ro) : Int := if chkC s l ≠ 0 then chkC s l else if chkC t r ≠ 0 then chkC t r else if lastC s l ≠ t then 26 else if 100 < l.length + r.length then 4 else 0
/-- what Join returns -/
def JoinR (s : Int) (l : List Ro) (t : Int) (r : List Ro) (w : World) : Ending → World → Prop := ChR (if joinE s l t r = 0 then s else 0) (if joinE s l t r = 0 then l ++ r else []) (joinE s l t r) w
theorem JoinR.no {s : Int} {l : List Ro} {t : Int} {r : List Ro} {w w' : World} {e : Ending} {x : Int} (hx : joinE s l t r = x) (h0 : x ≠ 0) (h : e = .returned (.tuple #[.agg #[.int .i64 0, .slice none 0 0], .int .i64 x])) (hb : Ext w w') : JoinR s l t r w e w' := by
  unfold JoinR
  rw [hx, if_neg h0, if_neg h0]
  exact ⟨none, 0, 0, h, hb, Rws.none_ _ _ _⟩
theorem JoinR.yes {s : Int} {l : List Ro} {t : Int} {r : List Ro} {w w' : World} {e : Ending} {A : Option Addr} {n c : Nat} (hx : joinE s l t r = 0) (h : e = .returned (.tuple #[.agg #[.int .i64 s, .slice A n c], .int .i64 0])) (hb : Ext w w') (hr : Rws w' (fun b => w.heap.size ≤ b) A n (l ++ r)) : JoinR s l t r w e w' := by
  unfold JoinR
  rw [hx, if_pos rfl, if_pos rfl]
  exact ⟨A, n, c, h, hb, hr⟩
theorem chk_cells {s : Int} {l : List Ro} (h : chkC s l = 0) : l.length ≤ 100 ∧ ∀ k, k < l.length → (l.getD k ro0).cells.length ≤ 1000 := by
  refine ⟨(chkC_ok h).1, fun k hk => ?_⟩
  have := (allE_e (chkGo_ok (chkC_ok h).2.2.2 k hk).1).1
  omega
theorem last_at {s : Int} {l : List Ro} {w : World} {A : Option Addr} {n : Nat} (h : Ints w A n (cntC s l)) : n = l.length + 1 ∧ ∃ b off, A = some ⟨b, off, none⟩ ∧ b < w.heap.size ∧ w.cell? ⟨b, off + l.length, none⟩ = some (.int .i64 (lastC s l)) := by
  have hn : n = l.length + 1 := by rw [← h.1, cntC_len]
  obtain ⟨b, off, e, hb, hc⟩ := h.2 (by omega)
  exact ⟨hn, b, off, e, hb, hc l.length (by omega)⟩
theorem join_1 {s t : Int} {l r : List Ro} (h : chkC s l ≠ 0) : joinE s l t r = chkC s l := by rw [joinE, if_pos h]
theorem join_2 {s t : Int} {l r : List Ro} (h : chkC s l = 0) (h2 : chkC t r ≠ 0) : joinE s l t r = chkC t r := by rw [joinE, if_neg (by simpa using h), if_pos h2]
theorem join_3 {s t : Int} {l r : List Ro} (h : chkC s l = 0) (h2 : chkC t r = 0) (h3 : lastC s l ≠ t) : joinE s l t r = 26 := by rw [joinE, if_neg (by simpa using h), if_neg (by simpa using h2), if_pos h3]
theorem join_4 {s t : Int} {l r : List Ro} (h : chkC s l = 0) (h2 : chkC t r = 0) (h3 : lastC s l = t) (h4 : 100 < l.length + r.length) : joinE s l t r = 4 := by rw [joinE, if_neg (by simpa using h), if_neg (by simpa using h2), if_neg (by simpa using h3), if_pos h4]
theorem join_0 {s t : Int} {l r : List Ro} (h : chkC s l = 0) (h2 : chkC t r = 0) (h3 : lastC s l = t) (h4 : ¬ 100 < l.length + r.length) : joinE s l t r = 0 := by rw [joinE, if_neg (by simpa using h), if_neg (by simpa using h2), if_neg (by simpa using h3), if_neg h4]
theorem CntR.out_ok {s : Int} {l : List Ro} {w w' : World} {e : Ending} (h : CntR s l w e w') (h0 : chkC s l = 0) : ∃ (A : Option Addr) (n c : Nat), e = .returned (.tuple #[.slice A n c, .int .i64 0]) ∧ Ext w w' ∧ Ints w' A n (cntC s l) ∧ ∀ b off, A = some ⟨b, off, none⟩ → w.heap.size ≤ b := by
  obtain ⟨A, n, c, h1, h2, h3⟩ := h
  rw [h0] at h1
  obtain ⟨h3, h4⟩ := h3
  rw [if_pos h0] at h3
  exact ⟨A, n, c, h1, h2, h3, h4⟩
theorem CntR.out_no {s : Int} {l : List Ro} {w w' : World} {e : Ending} (h : CntR s l w e w') : ∃ (A : Option Addr) (n c : Nat), e = .returned (.tuple #[.slice A n c, .int .i64 (chkC s l)]) ∧ Ext w w' := by
  obtain ⟨A, n, c, h1, h2, h3⟩ := h
  exact ⟨A, n, c, h1, h2⟩
theorem res_cells {w : World} {g : Nat} {u0 u1 v0 v1 : Value} (h0 : w.cell? ⟨g, 0, none⟩ = some u0) (h1 : w.cell? ⟨g, 1, none⟩ = some u1) : (w.setCell ⟨g, 0, none⟩ v0).cell? ⟨g, 0, none⟩ = some v0 ∧ ((w.setCell ⟨g, 0, none⟩ v0).setCell ⟨g, 1, none⟩ v1).cell? ⟨g, 1, none⟩ = some v1 :=
  ⟨World.cell?_setCell_same w ⟨g, 0, none⟩ v0 h0, World.cell?_setCell_same _ ⟨g, 1, none⟩ v1 ((World.cell?_setCell_other w ⟨g, 0, none⟩ ⟨g, 1, none⟩ v0 (by simp)).trans h1)⟩
theorem res_rws {w : World} {g B B' n : Nat} {A : Option Addr} {l : List Ro} {v0 v1 : Value} (h : Rws w (fun b => B ≤ b) A n l) (hg : g < B) (hB : B' ≤ B) : Rws ((w.setCell ⟨g, 0, none⟩ v0).setCell ⟨g, 1, none⟩ v1) (fun b => B' ≤ b) A n l := by
  refine h.keep (Nat.le_of_eq (by simp)) fun b hb hk => ⟨Nat.le_trans hB hk, fun o => ?_⟩
  have hk' : B ≤ b := hk
  have hne : ¬ (b = g) := by omega
  rw [World.cell?_setCell_other _ ⟨g, 1, none⟩ ⟨b, o, none⟩ v1 (by simp <;> omega), World.cell?_setCell_other _ ⟨g, 0, none⟩ ⟨b, o, none⟩ v0 (by simp <;> omega)]
end Go.Proofs.Ytfhecgipfhhchaa
