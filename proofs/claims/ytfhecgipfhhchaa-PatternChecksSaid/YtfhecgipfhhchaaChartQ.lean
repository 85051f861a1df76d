/- The counts that the iterator over rows hands out, in plain Lean. -/
import Derived.Test.YtfhecgipfhhchaaChartP
namespace Go.Proofs.Ytfhecgipfhhchaa
set_option maxRecDepth 100000
/-- what is handed out for a row: its number, the loops before it and behind it, its error -/
structure Cn where
  i : Nat
  b : Int
  a : Int
  e : Int
def cnE (i : Nat) (n : Int) (r : Ro) : Cn := if allE r.cells ≠ 0 then ⟨i, n, 0, allE r.cells⟩ else if usL r.cells ≠ n then ⟨i, n, 0, 26⟩ else ⟨i, n, mkL r.cells, 0⟩
/-- all that is handed out: up to the first error -/
def visG : Nat → Int → List Ro → List Cn
  | _, _, [] => []
  | i, n, r :: rs => if (cnE i n r).e ≠ 0 then [cnE i n r] else cnE i n r :: visG (i + 1) (cnE i n r).a rs
theorem vis_len : ∀ {l : List Ro} {i : Nat} {n : Int}, (visG i n l).length ≤ l.length := by
  intro l
  induction l with
  | nil => intro i n; simp [visG]
  | cons r rs ih =>
    intro i n
    rw [visG]
    split
    · simp
    · have := ih (i := i + 1) (n := (cnE i n r).a); simp; omega
theorem chk_cn (i : Nat) (n : Int) (r : Ro) (rs : List Ro) : chkGo n (r :: rs) = if (cnE i n r).e ≠ 0 then (cnE i n r).e else chkGo (cnE i n r).a rs := by
  rw [chkGo]
  unfold cnE
  by_cases h : allE r.cells ≠ 0
  · rw [if_pos h, if_pos h, if_pos h]
  · rw [if_neg h, if_neg h]
    by_cases h2 : usL r.cells ≠ n
    · rw [if_pos h2, if_pos h2, if_pos (by simp)]
    · rw [if_neg h2, if_neg h2, if_neg (by simp)]
theorem vis_ok : ∀ {l : List Ro} {i : Nat} {n : Int}, (∀ x ∈ visG i n l, x.e = 0) → chkGo n l = 0 := by
  intro l
  induction l with
  | nil => intro i n _; rfl
  | cons r rs ih =>
    intro i n h
    rw [visG] at h
    rw [chk_cn i]
    split at h
    · rename_i h1
      exact absurd (h _ (by simp)) h1
    · rename_i h1
      rw [if_neg h1]
      exact ih (i := i + 1) (fun x hx => h x (by simp [hx]))
theorem vis_bad : ∀ {l : List Ro} {i : Nat} {n : Int} {x : Cn}, x ∈ visG i n l → x.e ≠ 0 → chkGo n l = x.e := by
  intro l
  induction l with
  | nil => intro i n x h; simp [visG] at h
  | cons r rs ih =>
    intro i n x h he
    rw [visG] at h
    rw [chk_cn i]
    split at h
    · rename_i h1
      simp at h
      subst h
      rw [if_pos h1]
    · rename_i h1
      rw [if_neg h1]
      rcases List.mem_cons.1 h with rfl | h
      · exact absurd he (by simpa using h1)
      · exact ih h he
theorem vis_cnt : ∀ {l : List Ro} {i : Nat} {n : Int}, chkGo n l = 0 → (visG i n l).map (·.a) = l.map (fun r => mkL r.cells) := by
  intro l
  induction l with
  | nil => intro i n _; rfl
  | cons r rs ih =>
    intro i n h
    rw [chk_cn i] at h
    rw [visG]
    split at h
    · rename_i h1
      exact absurd h h1
    · rename_i h1
      rw [if_neg h1, List.map_cons, List.map_cons, ih h]
      congr 1
      unfold cnE at h1 ⊢
      split
      · rename_i h2
        rw [if_pos h2] at h1
        exact absurd h2 (by simpa using h1)
      · rename_i h2
        rw [if_neg h2] at h1
        split
        · rename_i h3
          rw [if_pos h3] at h1
          simp at h1
        · rfl
theorem cn_cases (i : Nat) (n : Int) (r : Ro) : (allE r.cells ≠ 0 ∧ cnE i n r = ⟨i, n, 0, allE r.cells⟩) ∨ (allE r.cells = 0 ∧ usL r.cells ≠ n ∧ cnE i n r = ⟨i, n, 0, 26⟩) ∨ (allE r.cells = 0 ∧ usL r.cells = n ∧ cnE i n r = ⟨i, n, mkL r.cells, 0⟩) := by
  unfold cnE
  by_cases h : allE r.cells ≠ 0
  · exact .inl ⟨h, if_pos h⟩
  · rw [if_neg h]
    by_cases h2 : usL r.cells ≠ n
    · exact .inr (.inl ⟨by omega, h2, if_pos h2⟩)
    · exact .inr (.inr ⟨by omega, by omega, if_neg h2⟩)
end Go.Proofs.Ytfhecgipfhhchaa
