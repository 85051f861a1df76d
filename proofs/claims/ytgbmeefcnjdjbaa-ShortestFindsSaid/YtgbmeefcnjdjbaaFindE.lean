/- The finder of the shortest list: small facts for list. -/
import Derived.Test.YtgbmeefcnjdjbaaFindD
namespace Go.Proofs.Ytgbmeefcnjdjbaa
set_option maxRecDepth 100000
set_option maxRecDepth 100000
open Go.RowKit Go.ChangeShapes Go.WideShapes Go.Joins
/-- a world from which, one block apart, the later one has only grown -/
theorem But.base {g : Nat} {w w' : World} (h : But (some g) w w') : ∃ wk : World, wk.heap.size = w.heap.size ∧ Ext wk w' := by
  by_cases hg : g < w.heap.size
  · have hg2 : g < w'.heap.size := Nat.lt_of_lt_of_le hg h.size
    refine ⟨{ w with heap := w.heap.modify g (fun _ => w'.heap[g]) }, by simp, ⟨h.os, h.tape, h.output, by simpa using h.size, fun k hk => ?_⟩⟩
    have hk2 : k < w.heap.size := by simpa using hk
    show w'.heap[k]? = (w.heap.modify g (fun _ => w'.heap[g]))[k]?
    rw [Array.getElem?_modify]
    by_cases e : g = k
    · subst e
      simp [hg, hg2]
    · rw [if_neg e]
      exact h.block k hk2 (by intro e9; cases e9; exact e rfl)
  · exact ⟨w, rfl, ⟨h.os, h.tape, h.output, h.size, fun k hk => h.block k hk (by intro e9; cases e9; omega)⟩⟩
/-- the table is empty, or right, whatever the length -/
theorem Least.all {l : List St} {g n c a m : Nat} {A : Option Addr} {tab tab' : Nat → Nat → Chc} {w w' : World} (h : Least l g n c A tab a m w w' tab') (hok : ∀ N, TabOk l tab N) : ∀ N, TabOk l tab' N := by
  intro N x y h1 h2 h3
  by_cases hy : y ≤ m
  · exact h.ok x y h1 hy h3
  · rw [h.up x y (by omega)]
    exact hok N x y h1 h2 h3
/-- the empty table -/
theorem TabOk.empty (l : List St) (N : Nat) : TabOk l (fun _ _ => ⟨0, 0, 0⟩) N := fun _ _ _ _ _ => .inl rfl
end Go.Proofs.Ytgbmeefcnjdjbaa
