/- The walks of length and long. -/
import Derived.Test.YtgbmeefcnjdjbaaTmsC
namespace Go.Proofs.Ytgbmeefcnjdjbaa
set_option maxRecDepth 100000
open Go.RowKit Go.ChangeShapes Go.WideShapes Go.Joins
theorem inR_bd {x a b : Int} (h : inR x a b = true) : a ≤ x ∧ x ≤ b := by simpa [inR] using h
theorem fine_cons {N : Int} {c : St} {g r : Tms} (h : fineT (.cons N c g r) = true) : (1 ≤ N ∧ N ≤ 200) ∧ fineT g = true ∧ fineT r = true := by
  by_cases hg : g = .nil
  · subst hg
    rw [fine_one] at h
    simp only [Bool.and_eq_true] at h
    exact ⟨inR_bd h.1.1, rfl, h.2⟩
  · rw [fine_grp _ _ _ _ hg] at h
    simp only [Bool.and_eq_true] at h
    exact ⟨inR_bd h.1.1.1, h.1.2, h.2⟩
theorem len_bd : ∀ {t : Tms}, fineT t = true → ∀ {m : Int}, 0 ≤ m → m ≤ 201 → 0 ≤ lenT t m ∧ lenT t m ≤ 201 := by
  intro t
  induction t with
  | nil => intro _ m h0 h1; exact ⟨h0, h1⟩
  | cons N c g r ih1 ih2 =>
    intro h m h0 h1
    obtain ⟨hN, hg, hr⟩ := fine_cons h
    by_cases e : g = .nil
    · subst e
      rw [len_one]
      exact ih2 hr (by omega) (by omega)
    · rw [len_grp _ _ _ _ _ e]
      obtain ⟨a, b⟩ := ih1 hg (m := 0) (by omega) (by omega)
      have := Int.mul_nonneg a (show (0 : Int) ≤ N by omega)
      exact ih2 hr (by omega) (by omega)
end Go.Proofs.Ytgbmeefcnjdjbaa
