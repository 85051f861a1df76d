/- A finder just made: its table is empty. -/
import Derived.Test.YtgbmeefcnjdjbaaFindG
namespace Go.Proofs.Ytgbmeefcnjdjbaa
set_option maxRecDepth 100000
set_option maxRecDepth 100000
open Go.RowKit Go.ChangeShapes Go.WideShapes Go.Joins
theorem FAt.new_ (w : World) {Z : Array Value} {t : TypeId} (A : Option Addr) (n c : Nat) (hs : Z.size = 10981) (hz : ∀ i, 1 ≤ i → i < 10981 → Z[i]? = some (.int .i64 0)) :
    FAt (w.alloc (.cells (Z.setIfInBounds 0 (.slice A n c)) t)) w.heap.size n c A (fun _ _ => ⟨0, 0, 0⟩) := by
  have h : (w.alloc (.cells (Z.setIfInBounds 0 (.slice A n c)) t)).heap[w.heap.size]? = some (.cells (Z.setIfInBounds 0 (.slice A n c)) t) := heap_alloc_new w _
  refine ⟨?_, fun o => ?_, fun a m i ha hm hi => ?_⟩
  · rw [cell_of_row _ w.heap.size 0 _ t (0, 0) h]
    simp [hs]
  · simp [go_sem]
  · rw [cell_of_row _ w.heap.size _ _ t (0, 0) h, Array.getElem?_setIfInBounds, if_neg (by omega), hz _ (by omega) (by omega)]
    match i, hi with
    | 0, _ => rfl
    | 1, _ => rfl
    | 2, _ => rfl
end Go.Proofs.Ytgbmeefcnjdjbaa
