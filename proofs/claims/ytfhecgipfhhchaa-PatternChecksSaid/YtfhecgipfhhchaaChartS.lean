/- The contracts of the reference's Counts, Great, SameInts, Same, and of Same of charts. -/
import Derived.Test.YtfhecgipfhhchaaChartR
namespace Go.Proofs.Ytfhecgipfhhchaa
set_option maxRecDepth 100000
open Go.RowKit Go.ChangeShapes Go.WideShapes Go.Joins
theorem great_hit {l : List Ro} {k : Nat} (hk : k < l.length) (h1 : k < 150) (h : greatN (l.getD k ro0).cells.length = true) : greatC l = true := by
  have : (l.take 150).any (fun r => greatN r.cells.length) = true := by
    rw [List.any_eq_true]
    refine ⟨l.getD k ro0, ?_, h⟩
    rw [List.getD_eq_getElem?_getD, List.getElem?_eq_getElem hk]
    exact List.mem_take_iff_getElem.2 ⟨k, by omega, rfl⟩
  rw [greatC, this]; rfl
theorem great_miss {l : List Ro} (h : ∀ k, k < l.length → k < 150 → greatN (l.getD k ro0).cells.length = false) : greatC l = ((decide (12 < l.length) && decide (l.length ≤ 100)) || decide (150 < l.length)) := by
  have : (l.take 150).any (fun r => greatN r.cells.length) = false := by
    rw [List.any_eq_false]
    intro x hx
    obtain ⟨k, hk, rfl⟩ := List.mem_take_iff_getElem.1 hx
    have := h k (by omega) (by omega)
    rw [List.getD_eq_getElem?_getD, List.getElem?_eq_getElem (by omega)] at this
    simpa using this
  rw [greatC, this]; simp
end Go.Proofs.Ytfhecgipfhhchaa
