/- Charts in plain Lean. -/
import Derived.Test.YtfhecgipfhhchaaStitchP
namespace Go.Proofs.Ytfhecgipfhhchaa
set_option maxRecDepth 100000
/-- a row: whether its back is seen, and its cells -/
structure Ro where
  back : Bool
  cells : List St
theorem Ro.ext_ {x y : Ro} (h1 : x.back = y.back) (h2 : x.cells = y.cells) : x = y := by
  cases x; cases y; simp only at h1 h2; subst h1; subst h2; rfl
instance : DecidableEq Ro := fun x y =>
  if h : x.back = y.back ∧ x.cells = y.cells then isTrue (Ro.ext_ h.1 h.2) else isFalse (fun e => h (by subst e; exact ⟨rfl, rfl⟩))
def ro0 : Ro := ⟨false, []⟩
/-- the error of rows that begin with a number of loops -/
def chkGo : Int → List Ro → Int
  | _, [] => 0
  | n, r :: rs => if allE r.cells ≠ 0 then allE r.cells else if usL r.cells ≠ n then 26 else chkGo (mkL r.cells) rs
/-- the error of a chart -/
def chkC (s : Int) (l : List Ro) : Int := if 100 < l.length then 4 else if s < 0 ∨ 200 < s then 8 else chkGo s l
/-- the counts of a valid chart -/
def cntC (s : Int) (l : List Ro) : List Int := s :: l.map (fun r => mkL r.cells)
/-- whether a chart is greater than the statements consider -/
def greatC (l : List Ro) : Bool := (l.take 150).any (fun r => greatN r.cells.length) || (decide (12 < l.length) && decide (l.length ≤ 100)) || decide (150 < l.length)
theorem getRo {l : List Ro} {k : Nat} (h : k < l.length) : l[k]? = some (l.getD k ro0) := by
  rw [List.getD_eq_getElem?_getD, List.getElem?_eq_getElem h]; rfl
theorem takeRo {l : List Ro} {k : Nat} (h : k < l.length) : l.take (k + 1) = l.take k ++ [l.getD k ro0] := by
  rw [List.take_succ_eq_append_getElem h, List.getD_eq_getElem?_getD, List.getElem?_eq_getElem h]; rfl
theorem dropRo {l : List Ro} {k : Nat} (h : k < l.length) : l.drop k = l.getD k ro0 :: l.drop (k + 1) := by
  rw [List.drop_eq_getElem_cons h, List.getD_eq_getElem?_getD, List.getElem?_eq_getElem h]; rfl
theorem great_parts {l : List Ro} (h : greatC l = false) : (l.length ≤ 12 ∨ (100 < l.length ∧ l.length ≤ 150)) ∧ ∀ k, k < l.length → greatN (l.getD k ro0).cells.length = false := by
  simp only [greatC, Bool.or_eq_false_iff, Bool.and_eq_false_iff, decide_eq_false_iff_not] at h
  obtain ⟨⟨h1, h2⟩, h3⟩ := h
  have hl : l.length ≤ 12 ∨ (100 < l.length ∧ l.length ≤ 150) := by omega
  refine ⟨hl, fun k hk => ?_⟩
  rw [List.take_of_length_le (by omega)] at h1
  have := List.any_eq_false.1 h1 (l.getD k ro0) (by rw [List.getD_eq_getElem?_getD, List.getElem?_eq_getElem hk]; exact List.getElem_mem _)
  simpa using this
theorem great_len {n : Nat} (h : greatN n = false) : n ≤ 60 ∨ (200 < n ∧ n ≤ 300) := by
  simp [greatN] at h; omega
theorem chkGo_vals {l : List Ro} : ∀ {n : Int}, chkGo n l = 0 ∨ chkGo n l = 4 ∨ chkGo n l = 8 ∨ chkGo n l = 26 := by
  induction l with
  | nil => intro n; exact .inl rfl
  | cons r rs ih =>
    intro n
    rw [chkGo]
    split
    · rename_i h
      unfold allE at h ⊢
      split
      · exact .inr (.inl rfl)
      · split
        · split
          · exact .inr (.inl rfl)
          · exact .inl rfl
        · exact .inr (.inr (.inl rfl))
    · split
      · exact .inr (.inr (.inr rfl))
      · exact ih
theorem chkC_vals (s : Int) (l : List Ro) : chkC s l = 0 ∨ chkC s l = 4 ∨ chkC s l = 8 ∨ chkC s l = 26 := by
  unfold chkC
  split
  · exact .inr (.inl rfl)
  · split
    · exact .inr (.inr (.inl rfl))
    · exact chkGo_vals
/-- what a valid chart is -/
theorem chkGo_ok {l : List Ro} : ∀ {n : Int}, chkGo n l = 0 → ∀ k, k < l.length → allE (l.getD k ro0).cells = 0 ∧ usL (l.getD k ro0).cells = (cntC n l).getD k 0 := by
  induction l with
  | nil => intro n _ k hk; simp at hk
  | cons r rs ih =>
    intro n h k hk
    rw [chkGo] at h
    split at h
    · exact absurd h (by assumption)
    · split at h
      · omega
      · rename_i h1 h2
        cases k with
        | zero =>
          simp only [List.getD_cons_zero, cntC]
          exact ⟨by omega, by omega⟩
        | succ k =>
          have := ih h k (by simpa using hk)
          simp only [List.getD_cons_succ, cntC, List.map_cons] at this ⊢
          exact this
theorem chkC_ok {s : Int} {l : List Ro} (h : chkC s l = 0) : l.length ≤ 100 ∧ 0 ≤ s ∧ s ≤ 200 ∧ chkGo s l = 0 := by
  unfold chkC at h
  split at h
  · omega
  · split at h
    · omega
    · exact ⟨by omega, by omega, by omega, h⟩
theorem cntC_len (s : Int) (l : List Ro) : (cntC s l).length = l.length + 1 := by simp [cntC]
/-- the counts one after the other -/
theorem cnt_succ {s : Int} {l : List Ro} {k : Nat} (hk : k < l.length) : (cntC s l).getD (k + 1) 0 = mkL (l.getD k ro0).cells := by
  rw [cntC, List.getD_cons_succ, List.getD_eq_getElem?_getD, List.getElem?_map, List.getElem?_eq_getElem hk, List.getD_eq_getElem?_getD, List.getElem?_eq_getElem hk]
  rfl
/-- each count of a valid chart is from 0 to 200 -/
theorem cnt_bd {s : Int} {l : List Ro} (h : chkC s l = 0) : ∀ k, k ≤ l.length → 0 ≤ (cntC s l).getD k 0 ∧ (cntC s l).getD k 0 ≤ 200 := by
  obtain ⟨_, h1, h2, h3⟩ := chkC_ok h
  intro k hk
  cases k with
  | zero => simp only [cntC, List.getD_cons_zero]; omega
  | succ k =>
    have h4 := (chkGo_ok h3 k (by omega)).1
    obtain ⟨g1, g2, g3, g4⟩ := allE_e h4
    have h5 := sums_bd g2 _ (Nat.le_refl _)
    rw [List.take_of_length_le (Nat.le_refl _)] at h5
    rw [cnt_succ (by omega)]
    omega
end Go.Proofs.Ytfhecgipfhhchaa
