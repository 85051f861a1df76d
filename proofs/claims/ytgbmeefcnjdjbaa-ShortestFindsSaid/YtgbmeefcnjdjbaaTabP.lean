/- The steps of the search for the shortest list, in plain Lean. -/
import Derived.Test.YtgbmeefcnjdjbaaShortC
namespace Go.Proofs.Ytgbmeefcnjdjbaa
set_option maxRecDepth 100000
/-- so many cells from a place on -/
def sub (l : List St) (a n : Nat) : List St := (l.drop a).take n
theorem sub_len {l : List St} {a n : Nat} (h : a + n ≤ l.length) : (sub l a n).length = n := by
  rw [sub, List.length_take, List.length_drop]; omega
theorem sub_get {l : List St} {a n j : Nat} (h : j < n) : (sub l a n).getD j st0 = l.getD (a + j) st0 := by
  rw [sub, List.getD_eq_getElem?_getD, List.getElem?_take, if_pos h, List.getElem?_drop, ← List.getD_eq_getElem?_getD]
theorem sub_take {l : List St} {a n p : Nat} (h : p ≤ n) : (sub l a n).take p = sub l a p := by
  rw [sub, sub, List.take_take, Nat.min_eq_left h]
theorem sub_drop {l : List St} {a n k : Nat} (_ : k ≤ n) : (sub l a n).drop k = sub l (a + k) (n - k) := by
  rw [sub, sub, List.drop_take, List.drop_drop]
theorem sub_all (l : List St) : sub l 0 l.length = l := by rw [sub, List.drop_zero, List.take_of_length_le (Nat.le_refl _)]
theorem sub_ne {l : List St} {a n : Nat} (h : a + n ≤ l.length) (h1 : 1 ≤ n) : sub l a n ≠ [] := by
  intro e
  have := sub_len h
  rw [e] at this
  simp at this
  omega
theorem per_mod {l : List St} {p : Nat} (h : l.length % p ≠ 0) : perB l p = false := by
  simp [perB, h]
theorem per_all_eq {l : List St} {p : Nat} (h : l.length % p = 0) (hp : p ≤ l.length) (he : ∀ j, j + p < l.length → l.getD j st0 = l.getD (j + p) st0) : perB l p = true := by
  simp only [perB, Bool.and_eq_true, decide_eq_true_eq]
  refine ⟨h, ?_⟩
  apply List.ext_getElem?
  intro j
  rw [List.getElem?_drop, List.getElem?_take]
  by_cases hj : j < l.length - p
  · rw [if_pos hj]
    have := he j (by omega)
    rw [List.getD_eq_getElem?_getD, List.getD_eq_getElem?_getD, List.getElem?_eq_getElem (by omega), List.getElem?_eq_getElem (show j + p < l.length by omega)] at this
    simp only [Option.getD_some] at this
    rw [List.getElem?_eq_getElem (show p + j < l.length by omega), List.getElem?_eq_getElem (show j < l.length by omega), this]
    congr 2
    omega
  · rw [if_neg hj, List.getElem?_eq_none (by omega)]
theorem per_at {l : List St} {p j : Nat} (hj : j + p < l.length) (h : l.getD j st0 ≠ l.getD (j + p) st0) : perB l p = false := by
  cases e : perB l p
  · rfl
  · exfalso
    apply h
    have := (perB_e e).2
    have h1 : (l.drop p)[j]? = (l.take (l.length - p))[j]? := by rw [this]
    rw [List.getElem?_drop, List.getElem?_take, if_pos (by omega), Nat.add_comm p j] at h1
    rw [List.getD_eq_getElem?_getD, List.getD_eq_getElem?_getD, h1]
/-- the choice's own size -/
def chS (l : List St) : Nat := (ch l).size
/-- the periods from a number on -/
def fin1 (l : List St) (P : Nat) (c : Chc) : Chc := ((List.range l.length).drop P).foldl (perStep chS l) c
/-- the parts below a number -/
def fin2 (l : List St) (I : Nat) (c : Chc) : Chc := (List.range I).reverse.foldl (partStep chS l) c
theorem fin1_succ {l : List St} {P : Nat} (h : P < l.length) (c : Chc) : fin1 l P c = fin1 l (P + 1) (perStep chS l c P) := by
  rw [fin1, List.drop_eq_getElem_cons (by simpa using h), List.foldl_cons, List.getElem_range]
  rfl
theorem fin1_end {l : List St} {P : Nat} (h : l.length ≤ P) (c : Chc) : fin1 l P c = c := by
  rw [fin1, List.drop_of_length_le (by simpa using h)]; rfl
theorem fin2_succ (l : List St) (I : Nat) (c : Chc) : fin2 l (I + 1) c = fin2 l I (partStep chS l c I) := by
  rw [fin2, List.range_succ, List.reverse_append]; rfl
theorem fin2_one (l : List St) (c : Chc) : fin2 l 1 c = c := by
  rw [fin2_succ]
  simp [fin2, partStep]
theorem per_small {l : List St} {c : Chc} {p : Nat} (h : p < 2) : perStep chS l c p = c := by rw [perStep, if_neg (by omega)]
theorem ch_steps {l : List St} (h : l ≠ []) (h1 : perB l 1 = false) : 2 ≤ l.length ∧ ch l = fin2 l l.length (fin1 l 2 ⟨l.length + 1, 0, 0⟩) := by
  have hl := ne_len h
  have h2 : 2 ≤ l.length := by
    rcases Nat.lt_or_ge l.length 2 with hh | hh
    · obtain ⟨x, rfl⟩ : ∃ x, l = [x] := by
        match l, hl, hh with
        | [x], _, _ => exact ⟨x, rfl⟩
      rw [per_one] at h1; cases h1
    · exact hh
  refine ⟨h2, ?_⟩
  rw [ch_eq h, chG, if_neg (by rw [h1]; simp)]
  have e : (List.range l.length).foldl (perStep (fun x => (ch x).size) l) ⟨l.length + 1, 0, 0⟩ = fin1 l 2 ⟨l.length + 1, 0, 0⟩ := by
    have : (List.range l.length).foldl (perStep (fun x => (ch x).size) l) ⟨l.length + 1, 0, 0⟩ = fin1 l 0 ⟨l.length + 1, 0, 0⟩ := by rw [fin1, List.drop_zero]; rfl
    rw [this, fin1_succ (by omega), per_small (by omega), fin1_succ (by omega), per_small (by omega)]
  rw [e]
  rfl
theorem per_no {l : List St} {c : Chc} {p : Nat} (h : perB l p = false) : perStep chS l c p = c := by rw [perStep, if_neg (by rw [h]; simp)]
theorem per_no2 {l : List St} {c : Chc} {p : Nat} (h : ¬ 1 + chS (l.take p) < c.size) : perStep chS l c p = c := by rw [perStep, if_neg (fun e => h e.2.2)]
theorem per_yes {l : List St} {c : Chc} {p : Nat} (h2 : 2 ≤ p) (hb : perB l p = true) (h : 1 + chS (l.take p) < c.size) : perStep chS l c p = ⟨1 + chS (l.take p), p, 0⟩ := by rw [perStep, if_pos ⟨h2, hb, h⟩]
theorem part_no {l : List St} {c : Chc} {k : Nat} (h : ¬ chS (l.take k) + chS (l.drop k) < c.size) : partStep chS l c k = c := by rw [partStep, if_neg (fun e => h e.2)]
theorem part_yes {l : List St} {c : Chc} {k : Nat} (h1 : 1 ≤ k) (h : chS (l.take k) + chS (l.drop k) < c.size) : partStep chS l c k = ⟨chS (l.take k) + chS (l.drop k), 0, k⟩ := by rw [partStep, if_pos ⟨h1, h⟩]
theorem chS_bd {l : List St} (h : l ≠ []) : 1 ≤ chS l ∧ chS l ≤ l.length := ch_le l.length rfl h
/-- what a choice's fields are at most -/
theorem ch_bd {l : List St} (h : l ≠ []) : (ch l).period < l.length + 1 ∧ (ch l).part < l.length + 1 := by
  rcases ch_made h with ⟨h1, _⟩ | ⟨_, h1, h2, _⟩ | ⟨h1, _, h2, _⟩
  · rw [h1]; simp
  · omega
  · omega
end Go.Proofs.Ytgbmeefcnjdjbaa
