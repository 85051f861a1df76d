/- A chart of one's own in a box; writes to its cells. -/
import Derived.Test.YtjjhoonkooihjaaChartX
namespace Go.Proofs.Ytjjhoonkooihjaa
open Go.RowKit Go.ChangeShapes Go.WideShapes Go.Joins
/-- at p lies a chart of the call's own; its cells may be written -/
def XBox (lo p : Nat) (s : Int) (A : Option Addr) (m c : Nat) (l : List Ro) (raws : List Raw) (w : World) : Prop :=
  w.cell? ⟨p, 0, none⟩ = some (.int .i64 s) ∧ w.cell? ⟨p, 1, none⟩ = some (.slice A m c) ∧ m ≤ maxLen ∧ Vec shRaw w A m raws ∧
    (0 < m → ∀ b off, A = some ⟨b, off, none⟩ → lo ≤ b ∧ b ≠ p) ∧ RosAt w (fun b => lo ≤ b ∧ b ≠ p ∧ some b ≠ Value.ownBlock (.slice A m c) ∧ ∀ o, w.frozen? ⟨b, o, none⟩ = false) raws l
theorem XBox.rws {lo p : Nat} {s : Int} {A : Option Addr} {m c : Nat} {l : List Ro} {raws : List Raw} {w : World} (h : XBox lo p s A m c l raws w) : Rws w (fun _ => True) A m l :=
  ⟨h.2.2.1, raws, h.2.2.2.1, fun _ _ _ _ => trivial, h.2.2.2.2.2.keep (Nat.le_refl _) fun _ _ _ => ⟨trivial, fun _ => rfl⟩⟩
theorem XBox.ext {lo p : Nat} {s : Int} {A : Option Addr} {m c : Nat} {l : List Ro} {raws : List Raw} {w w' : World} (h : XBox lo p s A m c l raws w) (hb : Ext w w') : XBox lo p s A m c l raws w' := by
  obtain ⟨h1, h2, h3, h4, h5, h6⟩ := h
  refine ⟨(Below.cell (p := ⟨p, 0, none⟩) hb (World.block_lt_of_cell? w _ h1)).trans h1, (Below.cell (p := ⟨p, 1, none⟩) hb (World.block_lt_of_cell? w _ h2)).trans h2, h3, h4.ext hb, h5, h6.keep (Below.size hb) fun b hb9 hk => ⟨⟨hk.1, hk.2.1, hk.2.2.1, fun o => (Ext.frozenAt hb ⟨b, o, none⟩ hb9).trans (hk.2.2.2 o)⟩, fun o => Below.cell (p := ⟨b, o, none⟩) hb hb9⟩⟩
theorem XBox.mk_ {lo p B n c : Nat} {s : Int} {e : TypeId} {A : Option Addr} {raws : List Raw} {l : List Ro} {w wy : World} {u0 u1 : Value} (h1 : OwnV shRaw w B e (.slice A n c) n raws) (h2 : RosAt w (Kr w B (.slice A n c)) raws l) (hb : Ext w wy)
    (hn : n ≤ maxLen) (hlo : lo ≤ B) (hp : p < B ∨ w.heap.size ≤ p) (hu0 : wy.cell? ⟨p, 0, none⟩ = some u0) (hu1 : wy.cell? ⟨p, 1, none⟩ = some u1) :
    XBox lo p s A n c l raws ((wy.setCell ⟨p, 0, none⟩ (.int .i64 s)).setCell ⟨p, 1, none⟩ (.slice A n c)) := by
  have hk : ∀ b, b < w.heap.size → B ≤ b → b ≠ p ∧ ∀ o, ((wy.setCell ⟨p, 0, none⟩ (.int .i64 s)).setCell ⟨p, 1, none⟩ (.slice A n c)).cell? ⟨b, o, none⟩ = w.cell? ⟨b, o, none⟩ := fun b hb9 hB => by
    have hne : ¬ (b = p) := by omega
    refine ⟨hne, fun o => ?_⟩
    rw [World.cell?_setCell_other _ ⟨p, 1, none⟩ ⟨b, o, none⟩ _ (by simp <;> omega), World.cell?_setCell_other _ ⟨p, 0, none⟩ ⟨b, o, none⟩ _ (by simp <;> omega)]
    exact Below.cell (p := ⟨b, o, none⟩) hb hb9
  have hsz : ((wy.setCell ⟨p, 0, none⟩ (.int .i64 s)).setCell ⟨p, 1, none⟩ (.slice A n c)).heap.size = wy.heap.size := by simp
  have hle : w.heap.size ≤ ((wy.setCell ⟨p, 0, none⟩ (.int .i64 s)).setCell ⟨p, 1, none⟩ (.slice A n c)).heap.size := by rw [hsz]; exact Below.size hb
  obtain ⟨A', c', e', hv, hbl⟩ := own_vecB h1
  cases e'
  have hg : 0 < n → ∀ b off, A = some ⟨b, off, none⟩ → B ≤ b ∧ b < w.heap.size := fun hn0 b off e => by
    obtain ⟨b', off', e', hlt, _⟩ := hv.2 hn0
    rw [e] at e'
    cases e'
    exact ⟨hbl hn0 b off e, hlt⟩
  refine ⟨?_, ?_, hn, hv.keepK (K := fun b => B ≤ b) hbl hle (fun b hb9 hB => (hk b hb9 hB).2), fun hn0 b off e => ?_, h2.keep hle fun b hb9 hB => ⟨⟨by have := hB.1; omega, (hk b hb9 hB.1).1, hB.2.1, fun o => ?_⟩, (hk b hb9 hB.1).2⟩⟩
  · exact (World.cell?_setCell_other _ ⟨p, 1, none⟩ ⟨p, 0, none⟩ _ (by simp)).trans (World.cell?_setCell_same wy ⟨p, 0, none⟩ _ hu0)
  · exact World.cell?_setCell_same _ ⟨p, 1, none⟩ _ ((World.cell?_setCell_other wy ⟨p, 0, none⟩ ⟨p, 1, none⟩ _ (by simp)).trans hu1)
  · obtain ⟨g1, g2⟩ := hg hn0 b off e
    exact ⟨by omega, (hk b g2 g1).1⟩
  · rw [World.frozen?_setCell, World.frozen?_setCell]
    exact (Ext.frozenAt hb ⟨b, o, none⟩ hb9).trans (hB.2.2 o)
theorem XBox.mk2 {lo n c : Nat} {s : Int} {e t : TypeId} {B : Nat} {A : Option Addr} {raws : List Raw} {l : List Ro} {w : World} (h1 : OwnV shRaw w B e (.slice A n c) n raws) (h2 : RosAt w (Kr w B (.slice A n c)) raws l)
    (hn : n ≤ maxLen) (hlo : lo ≤ B) : XBox lo w.heap.size s A n c l raws (w.alloc (.cells #[.int .i64 s, .slice A n c] t)) := by
  have hb : Ext w (w.alloc (.cells #[.int .i64 s, .slice A n c] t)) := (Ext.refl w).alloc _
  obtain ⟨A', c', e', hv, hbl⟩ := own_vecB h1
  cases e'
  refine ⟨by simp [go_sem], by simp [go_sem], hn, hv.ext hb, fun hn0 b off e => ?_, h2.keep (Below.size hb) fun b hb9 hB => ⟨⟨by have := hB.1; omega, by omega, hB.2.1, fun o => (Ext.frozenAt hb ⟨b, o, none⟩ hb9).trans (hB.2.2 o)⟩, fun o => Below.cell (p := ⟨b, o, none⟩) hb hb9⟩⟩
  obtain ⟨b', off', e', hlt, _⟩ := hv.2 hn0
  have := hbl hn0 b off e
  rw [e] at e'
  cases e'
  exact ⟨by omega, by omega⟩
/-- one row of it -/
theorem XBox.row {lo p : Nat} {s : Int} {A : Option Addr} {m c k : Nat} {l : List Ro} {raws : List Raw} {w : World} (h : XBox lo p s A m c l raws w) (hk : k < m) :
    ∃ g off A' n' c', A = some ⟨g, off, none⟩ ∧ g < w.heap.size ∧ g ≠ p ∧ w.cell? ⟨g, off + k * 2 + 1, none⟩ = some (.slice A' n' c') ∧ n' ≤ maxLen ∧
      ∀ j, j < n' → ∃ b o u, A' = some ⟨b, o, none⟩ ∧ w.cell? ⟨b, o + j * 4, none⟩ = some u ∧ b < w.heap.size ∧ lo ≤ b ∧ b ≠ p ∧ b ≠ g ∧ ∀ o', w.frozen? ⟨b, o', none⟩ = false := by
  obtain ⟨_, _, _, h4, h5, h6⟩ := h
  have hl : k < l.length := by rw [← h6.1, h4.1]; exact hk
  obtain ⟨g, off, rfl, hlt, hx⟩ := h4.2 (by omega)
  have hk2 : k < raws.length := by rw [h4.1]; exact hk
  have hr : raws[k]? = some (raws.getD k raw0) := by rw [List.getD_eq_getElem?_getD, List.getElem?_eq_getElem hk2]; rfl
  have hc1 := hx k _ hr 1 (.slice (raws.getD k raw0).A (raws.getD k raw0).n (raws.getD k raw0).c) (by simp [shRaw])
  obtain ⟨_, hv, hm, _, hK⟩ := h6.2 k hl
  refine ⟨g, off, _, _, _, rfl, hlt, (h5 (by omega) g off rfl).2, by rw [Nat.add_assoc]; exact hc1, hm, fun j hj => ?_⟩
  obtain ⟨b, o, e, hlt2, hy⟩ := hv.2 (by omega)
  have hj2 : j < (l.getD k ro0).cells.length := by rw [hv.1]; exact hj
  obtain ⟨u, hu⟩ : ∃ u, (shSt.cells ((l.getD k ro0).cells[j]))[0]? = some u := ⟨_, rfl⟩
  have hK9 := hK (by omega) b o e
  refine ⟨b, o, u, e, hy j _ (List.getElem?_eq_getElem hj2) 0 u hu, hlt2, hK9.1, hK9.2.1, fun e9 => hK9.2.2.1 ?_, hK9.2.2.2⟩
  rw [e9]; rfl
/-- only cells of these blocks have been written, and they are still there -/
def Zr (U : Nat → Prop) (w w' : World) : Prop :=
  w'.heap.size = w.heap.size ∧ (∀ b o, b < w.heap.size → ¬ U b → w'.cell? ⟨b, o, none⟩ = w.cell? ⟨b, o, none⟩) ∧ (∀ p, w'.frozen? p = w.frozen? p) ∧ ∀ p u, w.cell? p = some u → ∃ u', w'.cell? p = some u'
/-- the blocks of the cells -/
def Ux (lo hi p : Nat) (A : Option Addr) (b : Nat) : Prop := lo ≤ b ∧ b < hi ∧ b ≠ p ∧ ∀ g off, A = some ⟨g, off, none⟩ → b ≠ g
theorem Zr.rws {lo hi p : Nat} {A0 A : Option Addr} {w w' : World} {n : Nat} {l : List Ro} (h : Zr (Ux lo hi p A0) w w') (hr : Rws w (fun b => hi ≤ b) A n l) : Rws w' (fun _ => True) A n l :=
  hr.keep (Nat.le_of_eq h.1.symm) fun b hb hk => ⟨trivial, fun o => h.2.1 b o hb (fun hu => by have h1 : hi ≤ b := hk; have := hu.2.1; omega)⟩
theorem Zr.refl (U : Nat → Prop) (w : World) : Zr U w w := ⟨rfl, fun _ _ _ _ => rfl, fun _ => rfl, fun _ u h => ⟨u, h⟩⟩
theorem Zr.set {U : Nat → Prop} {w w' : World} (h : Zr U w w') {b o : Nat} (hb : U b) (v : Value) : Zr U w (w'.setCell ⟨b, o, none⟩ v) := by
  obtain ⟨h1, h2, h3, h4⟩ := h
  refine ⟨by simp [h1], fun b' o' hlt hn => ?_, fun p => (World.frozen?_setCell _ _ _ _).trans (h3 p), fun p u hu => ?_⟩
  · rw [World.cell?_setCell_other _ ⟨b, o, none⟩ ⟨b', o', none⟩ _ (fun e => by cases e; exact hn hb)]
    exact h2 b' o' hlt hn
  · obtain ⟨u', hu'⟩ := h4 p u hu
    by_cases e : p = ⟨b, o, none⟩
    · subst e; exact ⟨v, World.cell?_setCell_same _ _ _ hu'⟩
    · exact ⟨u', (World.cell?_setCell_other _ ⟨b, o, none⟩ p _ (fun e9 => e e9.symm)).trans hu'⟩
end Go.Proofs.Ytjjhoonkooihjaa
