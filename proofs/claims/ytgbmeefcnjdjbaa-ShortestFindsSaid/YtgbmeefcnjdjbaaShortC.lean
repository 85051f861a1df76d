/- What Check, Size and Expand of terms say, in plain Lean. -/
import Derived.Test.YtgbmeefcnjdjbaaShortQ
namespace Go.Proofs.Ytgbmeefcnjdjbaa
set_option maxRecDepth 100000
/-- the size of a list, at most one more than the limit -/
def szM (t : Tms) : Int := min (t.size : Int) 201
/-- whether all terms are valid -/
def fineT : Tms → Bool
  | .nil => true
  | .cons n c .nil r => inR n 1 200 && okSt c && fineT r
  | .cons n c g r => inR n 1 200 && decide (c = st0) && fineT g && fineT r
theorem fine_one (n : Int) (c : St) (r : Tms) : fineT (.cons n c .nil r) = (inR n 1 200 && okSt c && fineT r) := rfl
theorem fine_grp (n : Int) (c : St) (g r : Tms) (h : g ≠ .nil) : fineT (.cons n c g r) = (inR n 1 200 && decide (c = st0) && fineT g && fineT r) := by
  cases g with
  | nil => exact absurd rfl h
  | cons => rfl
/-- the number of cells behind a number of cells, at most one more than the limit -/
def lenT : Tms → Int → Int
  | .nil, m => m
  | .cons n _ .nil r, m => lenT r (min (m + 1 * n) 201)
  | .cons n _ g r, m => lenT r (min (m + lenT g 0 * n) 201)
theorem len_one (n : Int) (c : St) (r : Tms) (m : Int) : lenT (.cons n c .nil r) m = lenT r (min (m + 1 * n) 201) := rfl
theorem len_grp (n : Int) (c : St) (g r : Tms) (m : Int) (h : g ≠ .nil) : lenT (.cons n c g r) m = lenT r (min (m + lenT g 0 * n) 201) := by
  cases g with
  | nil => exact absurd rfl h
  | cons => rfl
def tchkE (t : Tms) : Int := if 200 < t.size ∨ 8 < t.depth then 4 else if fineT t then (if 200 < lenT t 0 then 4 else 0) else 8
theorem fine_pos : ∀ {t : Tms}, fineT t = true → t.pos := by
  intro t
  induction t with
  | nil => intro _; trivial
  | cons n c g r ih1 ih2 =>
    intro h
    by_cases hg : g = .nil
    · subst hg
      rw [fine_one] at h
      simp only [Bool.and_eq_true] at h
      exact ⟨(inR_e h.1.1).1, trivial, ih2 h.2⟩
    · rw [fine_grp _ _ _ _ hg] at h
      simp only [Bool.and_eq_true] at h
      exact ⟨(inR_e h.1.1.1).1, ih1 h.1.2, ih2 h.2⟩
theorem min_add (a b : Int) : min (min a 201 + b) 201 = min (a + b) 201 ∨ b < 0 := by omega
theorem len_is : ∀ {t : Tms}, t.pos → ∀ m : Int, 0 ≤ m → lenT t (min m 201) = min (m + t.cells.length) 201 := by
  intro t
  induction t with
  | nil => intro _ m _; simp [lenT, Tms.cells]
  | cons n c g r ih1 ih2 =>
    intro hp m hm
    have hn := hp.1
    by_cases hg : g = .nil
    · subst hg
      rw [len_one, cells_one, List.length_append, List.length_replicate]
      have e : min (min m 201 + 1 * n) 201 = min (m + n) 201 := by omega
      rw [e, ih2 hp.2.2 _ (by omega)]
      omega
    · rw [len_grp _ _ _ _ _ hg, cells_grp _ _ _ _ hg, List.length_append, rep_len]
      have h0 := ih1 hp.2.1 0 (Int.le_refl _)
      rw [show min (0 : Int) 201 = 0 by omega, Int.zero_add] at h0
      rw [h0]
      have hc := cells_pos hp.2.1 hg
      generalize hL : g.cells.length = L at *
      have hmul : (((n.toNat * L : Nat)) : Int) = L * n := by rw [Int.natCast_mul, Int.mul_comm]; congr 1; omega
      have e : min (min m 201 + min (L : Int) 201 * n) 201 = min (m + ((n.toNat * L : Nat) : Int)) 201 := by
        rw [hmul]
        rcases Nat.lt_or_ge L 201 with h | h
        · rw [show min (L : Int) 201 = L by omega]
          have : 0 ≤ (L : Int) * n := Int.mul_nonneg (by omega) (by omega)
          omega
        · rw [show min (L : Int) 201 = 201 by omega]
          have h1 : (L : Int) * 1 ≤ L * n := Int.mul_le_mul_of_nonneg_left hn (by omega)
          omega
      rw [e, ih2 hp.2.2 _ (by omega)]
      rw [Int.natCast_add]
      omega
theorem len_zero {t : Tms} (h : t.pos) : lenT t 0 = min (t.cells.length : Int) 201 := by
  have := len_is h 0 (Int.le_refl _)
  rwa [show min (0 : Int) 201 = 0 by omega, Int.zero_add] at this
theorem tchk_e {t : Tms} (h : tchkE t = 0) : t.size ≤ 200 ∧ t.depth ≤ 8 ∧ fineT t = true ∧ t.cells.length ≤ 200 := by
  unfold tchkE at h
  split at h
  · omega
  · rename_i h1
    split at h
    · rename_i h2
      split at h
      · omega
      · rename_i h3
        rw [len_zero (fine_pos h2)] at h3
        exact ⟨by omega, by omega, h2, by omega⟩
    · omega
theorem tchk_i {t : Tms} (h1 : t.size ≤ 200) (h2 : t.depth ≤ 8) (h3 : fineT t = true) (h4 : t.cells.length ≤ 200) : tchkE t = 0 := by
  rw [tchkE, if_neg (by omega), if_pos h3, if_neg (by rw [len_zero (fine_pos h3)]; omega)]
theorem good_fine : ∀ {t : Tms}, t.pos → t.top 200 → t.good (fun x => okSt x = true) → fineT t = true := by
  intro t
  induction t with
  | nil => intro _ _ _; rfl
  | cons n c g r ih1 ih2 =>
    intro hp ht hg0
    by_cases hg : g = .nil
    · subst hg
      rw [good_one] at hg0
      rw [fine_one, inR_t hp.1 ht.1, hg0.1, ih2 hp.2.2 ht.2.2 hg0.2]; rfl
    · rw [good_grp _ _ _ _ _ hg] at hg0
      rw [fine_grp _ _ _ _ hg, inR_t hp.1 ht.1, hg0.1, ih1 hp.2.1 ht.2.1 hg0.2.1, ih2 hp.2.2 ht.2.2 hg0.2.2]; simp
/-- the shortest list of at most 60 valid cells is valid -/
theorem find_chk {l : List St} (h : allB l = true) (hl : l.length ≤ 60) : tchkE (findT l) = 0 := by
  by_cases hne : l = []
  · subst hne; rfl
  · have hi := find_is hne
    have h1 := find_len l
    refine tchk_i (by omega) ?_ (good_fine hi.pos (top_mono (by omega) hi.top) (hi.good _ (fun x hx => List.all_eq_true.1 h x hx))) (by rw [hi.cells]; omega)
    have := hi.depth 5 (by omega)
    omega
/-- a list is not great -/
theorem find_small {l : List St} (h : l ≠ []) (hl : l.length ≤ 60) : (findT l).size ≤ 60 ∧ (findT l).depth ≤ 6 := by
  have hi := find_is h
  have h1 := find_len l
  exact ⟨by omega, by have := hi.depth 5 (by omega); omega⟩
end Go.Proofs.Ytgbmeefcnjdjbaa
