/- The finder of the shortest list: its table. -/
import Derived.Test.YtgbmeefcnjdjbaaFindA

namespace Go.Proofs.Ytgbmeefcnjdjbaa
set_option maxRecDepth 100000
set_option maxRecDepth 100000
open Go.RowKit Go.ChangeShapes Go.WideShapes Go.Joins
/-- a field of an entry -/
def fld (c : Chc) : Nat → Nat
  | 0 => c.size
  | 1 => c.period
  | _ => c.part
def setf (c : Chc) (i v : Nat) : Chc := match i with
  | 0 => ⟨v, c.period, c.part⟩
  | 1 => ⟨c.size, v, c.part⟩
  | _ => ⟨c.size, c.period, v⟩
/-- the table with one entry anew -/
def upd (tab : Nat → Nat → Chc) (a m : Nat) (c : Chc) : Nat → Nat → Chc := fun x y => if x = a ∧ y = m then c else tab x y
theorem upd_same (tab : Nat → Nat → Chc) (a m : Nat) (c : Chc) : upd tab a m c a m = c := by simp [upd]
theorem upd_other {tab : Nat → Nat → Chc} {a m x y : Nat} {c : Chc} (h : ¬ (x = a ∧ y = m)) : upd tab a m c x y = tab x y := by simp [upd, h]
/-- a finder in memory -/
structure FAt (w : World) (g n c : Nat) (A : Option Addr) (tab : Nat → Nat → Chc) : Prop where
  hd : w.cell? ⟨g, 0, none⟩ = some (.slice A n c)
  fz : ∀ o, w.frozen? ⟨g, o, none⟩ = false
  tb : ∀ a m i, a < 60 → m ≤ 60 → i < 3 → w.cell? ⟨g, 1 + a * 183 + m * 3 + i, none⟩ = some (.int .i64 (fld (tab a m) i : Nat))
theorem FAt.lt {w : World} {g n c : Nat} {A : Option Addr} {tab : Nat → Nat → Chc} (h : FAt w g n c A tab) : g < w.heap.size := World.block_lt_of_cell? w _ h.hd
theorem FAt.ext {w w' : World} {g n c : Nat} {A : Option Addr} {tab : Nat → Nat → Chc} (h : FAt w g n c A tab) (hb : Ext w w') : FAt w' g n c A tab := by
  have hl := h.lt
  obtain ⟨hc, hf, -⟩ := hb.facts
  exact ⟨(hc _ _ hl).trans h.hd, fun o => (hf _ _ hl).trans (h.fz o), fun a m i ha hm hi => (hc _ _ hl).trans (h.tb a m i ha hm hi)⟩
theorem FAt.set {w : World} {g n c : Nat} {A : Option Addr} {tab : Nat → Nat → Chc} (h : FAt w g n c A tab) {a m i : Nat} (ha : a < 60) (hm : m ≤ 60) (hi : i < 3) (v : Nat) :
    FAt (w.setCell ⟨g, 1 + a * 183 + m * 3 + i, none⟩ (.int .i64 (v : Int))) g n c A (upd tab a m (setf (tab a m) i v)) := by
  refine ⟨?_, fun o => (World.frozen?_setCell _ _ _ _).trans (h.fz o), fun x y j hx hy hj => ?_⟩
  · rw [World.cell?_setCell_other _ _ _ _ (by intro e; simp only [Addr.mk.injEq] at e; omega)]
    exact h.hd
  · by_cases e : x = a ∧ y = m
    · obtain ⟨rfl, rfl⟩ := e
      rw [upd_same]
      by_cases ej : j = i
      · subst ej
        rw [World.cell?_setCell_same _ _ _ (h.tb x y j hx hy hj)]
        match j, hj with
        | 0, _ => rfl
        | 1, _ => rfl
        | 2, _ => rfl
      · rw [World.cell?_setCell_other _ _ _ _ (by intro e9; simp only [Addr.mk.injEq] at e9; omega), h.tb x y j hx hy hj]
        match i, j, hi, hj with
        | 0, 1, _, _ => rfl
        | 0, 2, _, _ => rfl
        | 1, 0, _, _ => rfl
        | 1, 2, _, _ => rfl
        | 2, 0, _, _ => rfl
        | 2, 1, _, _ => rfl
        | 0, 0, _, _ => exact absurd rfl ej
        | 1, 1, _, _ => exact absurd rfl ej
        | 2, 2, _, _ => exact absurd rfl ej
    · rw [upd_other e, World.cell?_setCell_other _ _ _ _ (by intro e9; simp only [Addr.mk.injEq] at e9; omega)]
      exact h.tb x y j hx hy hj
/-- the entries up to a length are empty or right -/
def TabOk (l : List St) (tab : Nat → Nat → Chc) (N : Nat) : Prop := ∀ a m, 1 ≤ m → m ≤ N → a + m ≤ l.length → tab a m = ⟨0, 0, 0⟩ ∨ tab a m = ch (sub l a m)
theorem TabOk.down {l : List St} {tab : Nat → Nat → Chc} {N M : Nat} (h : TabOk l tab N) (hm : M ≤ N) : TabOk l tab M := fun a m h1 h2 h3 => h a m h1 (by omega) h3
/-- what a call of least has done -/
structure Least (l : List St) (g n c : Nat) (A : Option Addr) (tab : Nat → Nat → Chc) (a m : Nat) (w w' : World) (tab' : Nat → Nat → Chc) : Prop where
  at_ : FAt w' g n c A tab'
  ok : TabOk l tab' m
  up : ∀ x y, m < y → tab' x y = tab x y
  it : tab' a m = ch (sub l a m)
  but : But (some g) w w'
theorem chs_pos {l : List St} {a m : Nat} (h : a + m ≤ l.length) (h1 : 1 ≤ m) : 1 ≤ (ch (sub l a m)).size ∧ (ch (sub l a m)).size ≤ m := by
  have h2 := chS_bd (sub_ne h h1)
  rw [sub_len h] at h2
  exact h2
end Go.Proofs.Ytgbmeefcnjdjbaa
