/- What slope computes, in plain Lean. -/
namespace Go.Proofs.Ytegfmojjajoncaa
/-- whether a number is in a range -/
def inR (n lo hi : Int) : Bool := decide (lo ≤ n) && decide (n ≤ hi)
theorem inR_t {n lo hi : Int} (h : lo ≤ n) (k : n ≤ hi) : inR n lo hi = true := by simp [inR, h, k]
theorem inR_f {n lo hi : Int} (h : n < lo ∨ hi < n) : inR n lo hi = false := by simp [inR]; omega
theorem inR_e {n lo hi : Int} (h : inR n lo hi = true) : lo ≤ n ∧ n ≤ hi := by simpa [inR] using h
theorem inR_n {n lo hi : Int} (h : inR n lo hi = false) : n < lo ∨ hi < n := by simp [inR] at h; omega
theorem ediv_of {a b q : Int} (hb : 0 < b) (h1 : q * b ≤ a) (h2 : a < (q + 1) * b) : a / b = q := by
  apply Int.le_antisymm
  · exact Int.lt_add_one_iff.1 ((Int.ediv_lt_iff_lt_mul hb).2 h2)
  · exact (Int.le_ediv_iff_mul_le hb).2 h1
/-- rows and changes are valid -/
def spOk (rows changes : Int) : Bool := inR rows 1 1000 && inR changes 1 rows
def spE (rows changes : Int) : Int := if spOk rows changes then 0 else 2
/-- a line is valid -/
def lnOk (a b rows : Int) : Bool := inR a (-1000) 1000 && inR b (-1000) 1000 && inR rows 1 1000
def lnE (a b rows : Int) : Int := if lnOk a b rows then 0 else 2
/-- the number of a line -/
def atV (a b rows i : Int) : Int := (2 * ((a + 1000) * (rows - i) + (b + 1000) * i) + rows) / (2 * rows) - 1000
def markV (rows changes : Int) (i : Nat) : Int := (2 * i + 1) * rows / (2 * changes)
def gapV (rows changes : Int) (i : Nat) : Int := (i + 1) * rows / changes - i * rows / changes
def evenV (a b rows : Int) (i : Nat) : Int := if (i : Int) < rows then atV a b rows ((i : Int) - (i : Int) % 2) else atV a b rows i
def marksL (rows changes : Int) : List Int := if spOk rows changes then (List.range changes.toNat).map (markV rows changes) else []
def gapsL (rows changes : Int) : List Int := if spOk rows changes then (List.range changes.toNat).map (gapV rows changes) else []
def lineL (a b rows : Int) : List Int := if lnOk a b rows then (List.range (rows.toNat + 1)).map (fun i : Nat => atV a b rows (i : Int)) else []
def evenL (a b rows : Int) : List Int := if lnOk a b rows then (List.range (rows.toNat + 1)).map (evenV a b rows) else []
def stE (l : List Int) : Int := if 1001 < l.length then 4 else if l.all (fun x => inR x (-1000) 1000) then 0 else 16
def stepV (l : List Int) (i : Nat) : Int := l.getD (i + 1) 0 - l.getD i 0
def stepsL (l : List Int) : List Int := if stE l = 0 then (List.range (l.length - 1)).map (stepV l) else []
theorem spOk_e {rows changes : Int} (h : spOk rows changes = true) : 1 ≤ rows ∧ rows ≤ 1000 ∧ 1 ≤ changes ∧ changes ≤ rows := by
  simp only [spOk, Bool.and_eq_true] at h
  have h1 := inR_e h.1
  have h2 := inR_e h.2
  omega
theorem lnOk_e {a b rows : Int} (h : lnOk a b rows = true) : -1000 ≤ a ∧ a ≤ 1000 ∧ -1000 ≤ b ∧ b ≤ 1000 ∧ 1 ≤ rows ∧ rows ≤ 1000 := by
  simp only [lnOk, Bool.and_eq_true] at h
  have h1 := inR_e h.1.1
  have h2 := inR_e h.1.2
  have h3 := inR_e h.2
  omega
theorem stE_bad {l : List Int} {n k : Nat} (hn : n ≤ 1001) (hl : l.length = n) (hk : k < n) (h : inR (l.getD k 0) (-1000) 1000 = false) : stE l = 16 := by
  rw [stE, if_neg (by omega), if_neg]
  intro ha
  rw [List.all_eq_true] at ha
  have := ha (l.getD k 0) (by rw [List.getD_eq_getElem?_getD, List.getElem?_eq_getElem (by omega)]; exact List.getElem_mem _)
  rw [h] at this
  cases this
theorem stE_ok {l : List Int} {n : Nat} (hn : n ≤ 1001) (hl : l.length = n) (h : ∀ j, j < n → inR (l.getD j 0) (-1000) 1000 = true) : stE l = 0 := by
  rw [stE, if_neg (by omega), if_pos]
  rw [List.all_eq_true]
  intro x hx
  obtain ⟨j, hj, e⟩ := List.getElem_of_mem hx
  have := h j (by omega)
  rwa [List.getD_eq_getElem?_getD, List.getElem?_eq_getElem hj, Option.getD_some, e] at this
theorem tdiv_neg {a b : Int} (h : a < 0) (hb : 1 ≤ b) : (a.tdiv b * b = a → a / b = a.tdiv b) ∧ (¬ a.tdiv b * b = a → a / b = a.tdiv b - 1) ∧ (a ≤ a.tdiv b * b ∧ a ≤ a.tdiv b ∧ a.tdiv b ≤ 0 ∧ a.tdiv b * b ≤ 0) := by
  obtain ⟨n, rfl⟩ : ∃ n : Int, a = -n := ⟨-a, by omega⟩
  have e : (-n).tdiv b = -(n / b) := by rw [Int.neg_tdiv, Int.tdiv_eq_ediv_of_nonneg (by omega)]
  rw [e]
  have h1 := Int.ediv_mul_le n (show b ≠ 0 by omega)
  have h2 := Int.lt_ediv_add_one_mul_self n (show 0 < b by omega)
  have h3 : 0 ≤ n / b := Int.ediv_nonneg (by omega) (by omega)
  have h4 : n / b ≤ n := Int.ediv_le_self _ (by omega)
  have e1 : -(n / b) * b = -(n / b * b) := by rw [Int.neg_mul]
  rw [e1]
  rw [Int.add_mul, Int.one_mul] at h2
  refine ⟨fun k => ediv_of (by omega) (by rw [e1]; omega) (by rw [Int.add_mul, e1]; omega), fun k => ediv_of (by omega) (by rw [Int.sub_mul, e1]; omega) (by rw [show -(n / b) - 1 + 1 = -(n / b) by omega, e1]; omega), by omega, by omega, by omega, by have := Int.mul_nonneg h3 (show 0 ≤ b by omega); omega⟩
theorem lnOk_a {a : Int} (b rows : Int) (h : inR a (-1000) 1000 = false) : lnOk a b rows = false := by simp [lnOk, h]
theorem lnOk_b {b : Int} (a rows : Int) (h : inR b (-1000) 1000 = false) : lnOk a b rows = false := by simp [lnOk, h]
theorem lnOk_c {rows : Int} (a b : Int) (h : inR rows 1 1000 = false) : lnOk a b rows = false := by simp [lnOk, h]
theorem mul_bd {a : Int} {k r : Nat} (h0 : -4000 ≤ a) (h1 : a ≤ 4000) (hk : k ≤ r) (hr : r ≤ 1000) : -4000000 ≤ a * (k : Int) ∧ a * (k : Int) ≤ 4000000 := by
  have e1 := Int.mul_le_mul_of_nonneg_right h1 (show 0 ≤ (k : Int) by omega)
  have e2 := Int.mul_le_mul_of_nonneg_right h0 (show 0 ≤ (k : Int) by omega)
  omega
/-- the number of a line, as the reference reckons it -/
theorem at_down {a b : Int} {r k : Nat} (hr : 1 ≤ r) : a + (2 * (b - a) * (k : Int) + (r : Int)) / (2 * (r : Int)) = atV a b r k := by
  unfold atV
  have e : 2 * ((a + 1000) * ((r : Int) - (k : Int)) + (b + 1000) * (k : Int)) + (r : Int) = (2 * (b - a) * (k : Int) + (r : Int)) + (a + 1000) * (2 * (r : Int)) := by
    rw [Int.mul_sub, Int.mul_left_comm (a + 1000), Int.mul_assoc 2, Int.sub_mul, Int.add_mul b, Int.add_mul a, Int.add_mul a]; omega
  rw [e, Int.add_mul_ediv_right _ _ (by omega)]
  omega
theorem at_bd {a b : Int} {r k : Nat} (a0 : -1000 ≤ a) (a1 : a ≤ 1000) (b0 : -1000 ≤ b) (b1 : b ≤ 1000) (hr : 1 ≤ r) (hk : k ≤ r) :
    -3000 ≤ (2 * (b - a) * (k : Int) + (r : Int)) / (2 * (r : Int)) ∧ (2 * (b - a) * (k : Int) + (r : Int)) / (2 * (r : Int)) ≤ 3000 := by
  have e1 := Int.mul_le_mul_of_nonneg_right (show b - a ≤ 2000 by omega) (show 0 ≤ (k : Int) by omega)
  have e2 := Int.mul_le_mul_of_nonneg_right (show -2000 ≤ b - a by omega) (show 0 ≤ (k : Int) by omega)
  have e3 : 2 * (b - a) * (k : Int) = 2 * ((b - a) * (k : Int)) := Int.mul_assoc _ _ _
  constructor
  · exact (Int.le_ediv_iff_mul_le (by omega)).2 (by omega)
  · exact Int.lt_add_one_iff.1 ((Int.ediv_lt_iff_lt_mul (by omega)).2 (by omega))
theorem line_get {a b : Int} {r k : Nat} (hk : k < r + 1) : ((List.range (r + 1)).map (fun i : Nat => atV a b r (i : Int))).getD k 0 = atV a b r k := by
  simp [List.getD_eq_getElem?_getD, hk]
theorem even_odd (a b : Int) {r m : Nat} (h : (m + 1) % 2 = 1) (hr : m + 1 < r) : evenV a b r (m + 1) = atV a b r m := by
  rw [evenV, if_pos (by omega)]; congr 1; omega
theorem even_even (a b : Int) {r k : Nat} (_hk : k ≤ r) (h : ¬ (k % 2 = 1 ∧ k < r)) : evenV a b r k = atV a b r k := by
  unfold evenV
  split
  · congr 1; omega
  · rfl
theorem par_cases {k r : Nat} (h : ¬ (k % 2 = 1 ∧ k < r)) : (((k : Int) % 2 == 1) = false) ∨ (((k : Int) % 2 == 1) = true ∧ r ≤ k) := by
  by_cases h1 : k % 2 = 1
  · exact .inr ⟨by simp; omega, by omega⟩
  · exact .inl (by simp; omega)
theorem ints_eq {xs ys : List Int} {n : Nat} (hx : xs.length = n) (hy : ys.length = n) (h : ∀ j, j < n → xs.getD j 0 = ys.getD j 0) : xs = ys := by
  apply List.ext_getElem (by omega)
  intro i h1 h2
  have := h i (by omega)
  rwa [List.getD_eq_getElem?_getD, List.getD_eq_getElem?_getD, List.getElem?_eq_getElem h1, List.getElem?_eq_getElem h2] at this
theorem marksL_len (rows changes : Int) : (marksL rows changes).length ≤ 9223372036854775807 := by
  unfold marksL; split
  · rename_i h
    have := spOk_e h
    rw [List.length_map, List.length_range]; omega
  · simp
theorem gapsL_len (rows changes : Int) : (gapsL rows changes).length ≤ 9223372036854775807 := by
  unfold gapsL; split
  · rename_i h
    have := spOk_e h
    rw [List.length_map, List.length_range]; omega
  · simp
theorem lineL_len (a b rows : Int) : (lineL a b rows).length ≤ 9223372036854775807 := by
  unfold lineL; split
  · rename_i h
    have := lnOk_e h
    rw [List.length_map, List.length_range]; omega
  · simp
theorem evenL_len (a b rows : Int) : (evenL a b rows).length ≤ 9223372036854775807 := by
  unfold evenL; split
  · rename_i h
    have := lnOk_e h
    rw [List.length_map, List.length_range]; omega
  · simp
theorem stepsL_len {l : List Int} {n : Nat} (h : l.length = n) : (stepsL l).length ≤ 9223372036854775807 := by
  unfold stepsL; split
  · rename_i h0
    rw [List.length_map, List.length_range]
    unfold stE at h0
    split at h0
    · cases h0
    · omega
  · simp
def words (rows changes : Int) : Int × Int × Int := if spOk rows changes then (rows / changes, changes - rows % changes, rows % changes) else (0, 0, 0)
end Go.Proofs.Ytegfmojjajoncaa
