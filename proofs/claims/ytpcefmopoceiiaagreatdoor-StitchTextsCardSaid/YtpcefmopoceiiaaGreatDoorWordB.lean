/- A stitch in a box; strings of one's own. -/
import Derived.Test.YtpcefmopoceiiaaGreatDoorWord
import Derived.Test.YtpcefmopoceiiaaGreatDoorParse
namespace Go.Proofs.YtpcefmopoceiiaaGreatDoor
set_option maxRecDepth 100000
set_option maxRecDepth 100000
open Go.RowKit
theorem own_strs {w : World} {B m c : Nat} {A : Option Addr} {e : TypeId} {ws : List (List UInt8)} (h : OwnV shStr w B e (.slice A m c) m ws) (hm : 0 < m) : ∃ b off, A = some ⟨b, off, none⟩ ∧ B ≤ b ∧ b < w.heap.size ∧ ∀ k, k < m → w.cell? ⟨b, off + k, none⟩ = some (.string ⟨(ws.getD k []).toArray⟩) := by
  obtain ⟨A', c', e1, hv, hb⟩ := own_vecB h
  cases e1
  obtain ⟨b, off, e2, hlt, hc⟩ := hv.2 hm
  refine ⟨b, off, e2, hb hm b off e2, hlt, fun k hk => ?_⟩
  have h9 := hc k (ws.getD k []) (by rw [List.getD_eq_getElem?_getD, List.getElem?_eq_getElem (by rw [hv.1]; exact hk)]; rfl) 0 (.string ⟨(ws.getD k []).toArray⟩) rfl
  rw [show off + (k * shStr.size + 0) = off + k by show off + (k * 1 + 0) = off + k; omega] at h9
  exact h9
/-- a stitch in a box of its own -/
structure Bxs (W : World) (g : Nat) (k : Int) (p : Bool) (a b : Int) : Prop where
  c0 : W.cell? ⟨g, 0, none⟩ = some (.int .u8 k)
  c1 : W.cell? ⟨g, 1, none⟩ = some (.bool p)
  c2 : W.cell? ⟨g, 2, none⟩ = some (.int .i64 a)
  c3 : W.cell? ⟨g, 3, none⟩ = some (.int .i64 b)
  f0 : W.frozen? ⟨g, 0, none⟩ = false
  f1 : W.frozen? ⟨g, 1, none⟩ = false
  f2 : W.frozen? ⟨g, 2, none⟩ = false
  f3 : W.frozen? ⟨g, 3, none⟩ = false
  hlt : g < W.heap.size
theorem bx_new (w : World) (k : Int) (p : Bool) (a b : Int) (t : TypeId) : Bxs (w.alloc (.cells #[.int .u8 k, .bool p, .int .i64 a, .int .i64 b] t)) w.heap.size k p a b :=
  ⟨by simp [go_sem], by simp [go_sem], by simp [go_sem], by simp [go_sem], by simp [go_sem], by simp [go_sem], by simp [go_sem], by simp [go_sem], by simp⟩
theorem bx_ext {W W' : World} {g : Nat} {k : Int} {p : Bool} {a b : Int} (h : Bxs W g k p a b) (hb : Ext W W') : Bxs W' g k p a b := by
  obtain ⟨hc, hf, hz⟩ := Ext.facts hb
  have hl := h.hlt
  exact ⟨by rw [hc _ _ hl]; exact h.c0, by rw [hc _ _ hl]; exact h.c1, by rw [hc _ _ hl]; exact h.c2, by rw [hc _ _ hl]; exact h.c3, by rw [hf _ _ hl]; exact h.f0, by rw [hf _ _ hl]; exact h.f1, by rw [hf _ _ hl]; exact h.f2, by rw [hf _ _ hl]; exact h.f3, Nat.lt_of_lt_of_le hl (Below.size hb)⟩
theorem bx_k {W : World} {g : Nat} {k : Int} {p : Bool} {a b : Int} (h : Bxs W g k p a b) (x : Int) : Bxs (W.setCell ⟨g, 0, none⟩ (.int .u8 x)) g x p a b := by
  obtain ⟨c0, c1, c2, c3, f0, f1, f2, f3, hl⟩ := h
  exact ⟨by simp [go_sem, c0], by simp [go_sem, c1], by simp [go_sem, c2], by simp [go_sem, c3], by simp [go_sem, f0], by simp [go_sem, f1], by simp [go_sem, f2], by simp [go_sem, f3], by simp [hl]⟩
theorem bx_b {W : World} {g : Nat} {k : Int} {p : Bool} {a b : Int} (h : Bxs W g k p a b) (x : Int) : Bxs (W.setCell ⟨g, 3, none⟩ (.int .i64 x)) g k p a x := by
  obtain ⟨c0, c1, c2, c3, f0, f1, f2, f3, hl⟩ := h
  exact ⟨by simp [go_sem, c0], by simp [go_sem, c1], by simp [go_sem, c2], by simp [go_sem, c3], by simp [go_sem, f0], by simp [go_sem, f1], by simp [go_sem, f2], by simp [go_sem, f3], by simp [hl]⟩
theorem numN_none {l : List UInt8} (h : numS l = none) : numN l = 0 ∧ (numS l).isSome = false := by unfold numN; rw [h]; exact ⟨rfl, rfl⟩
theorem kindR_rng (d : UInt8) : 0 ≤ kindR d ∧ kindR d ≤ 10 := by
  unfold kindR
  repeat' split
  all_goals omega
end Go.Proofs.YtpcefmopoceiiaaGreatDoor
