/- The plain laws of slope. -/
import Derived.Test.YtegfmojjajoncaaSlopeP
namespace Go.Proofs.Ytegfmojjajoncaa

/-- the numbers of a line -/
def lnF (a b : Int) (r : Nat) : List Int := (List.range (r + 1)).map (fun i : Nat => atV a b r (i : Int))
def evF (a b : Int) (r : Nat) : List Int := (List.range (r + 1)).map (evenV a b r)
theorem lnF_get {a b : Int} {r k : Nat} (hk : k < r + 1) : (lnF a b r).getD k 0 = atV a b r k := line_get hk
theorem evF_get {a b : Int} {r k : Nat} (hk : k < r + 1) : (evF a b r).getD k 0 = evenV a b r k := by
  simp [evF, List.getD_eq_getElem?_getD, hk]
/-- where a number of a line lies -/
theorem at_spec {a b : Int} {r k : Nat} (hr : 1 ≤ r) : 2 * ((r : Int) * (atV a b r k - a)) ≤ 2 * ((b - a) * (k : Int)) + r ∧ 2 * ((b - a) * (k : Int)) + r < 2 * ((r : Int) * (atV a b r k - a)) + 2 * r := by
  have e := at_down (a := a) (b := b) (r := r) (k := k) hr
  have h1 := Int.ediv_mul_le (2 * (b - a) * (k : Int) + (r : Int)) (show 2 * (r : Int) ≠ 0 by omega)
  have h2 := Int.lt_ediv_add_one_mul_self (2 * (b - a) * (k : Int) + (r : Int)) (show 0 < 2 * (r : Int) by omega)
  rw [show atV a b r k - a = (2 * (b - a) * (k : Int) + (r : Int)) / (2 * (r : Int)) by omega]
  generalize (2 * (b - a) * (k : Int) + (r : Int)) / (2 * (r : Int)) = q at *
  rw [Int.add_mul, Int.one_mul, Int.mul_left_comm, Int.mul_comm q, Int.mul_assoc] at h2
  rw [Int.mul_left_comm, Int.mul_comm q, Int.mul_assoc] at h1
  omega
theorem at_near {a b : Int} {r k : Nat} (hr : 1 ≤ r) : 2 * ((r : Int) * (atV a b r k - a) - (b - a) * (k : Int)) ≤ r ∧ -(r : Int) ≤ 2 * ((r : Int) * (atV a b r k - a) - (b - a) * (k : Int)) := by
  have := at_spec (a := a) (b := b) (k := k) hr
  omega
theorem at_zero {a b : Int} {r : Nat} (hr : 1 ≤ r) : atV a b r ((0 : Nat) : Int) = a := by
  have e := at_down (a := a) (b := b) (r := r) (k := 0) hr
  rw [← e, ediv_of (q := 0) (by omega) (by omega) (by omega)]; omega
theorem at_end {a b : Int} {r : Nat} (hr : 1 ≤ r) : atV a b r (r : Int) = b := by
  have e := at_down (a := a) (b := b) (r := r) (k := r) hr
  rw [← e, ediv_of (q := b - a) (by omega) (by rw [Int.mul_left_comm, Int.mul_assoc]; omega) (by rw [Int.add_mul, Int.mul_left_comm, Int.mul_assoc]; omega)]; omega
theorem ev_zero {a b : Int} {r : Nat} (hr : 1 ≤ r) : evenV a b r 0 = a := by
  rw [even_even a b (by omega) (by omega)]; exact at_zero hr
theorem ev_end {a b : Int} {r : Nat} (hr : 1 ≤ r) : evenV a b r r = b := by
  rw [even_even a b (by omega) (by omega)]; exact at_end hr
theorem at_rng {a b : Int} {r k : Nat} (a0 : -1000 ≤ a) (a1 : a ≤ 1000) (b0 : -1000 ≤ b) (b1 : b ≤ 1000) (hr : 1 ≤ r) (hk : k ≤ r) : -1000 ≤ atV a b r k ∧ atV a b r k ≤ 1000 := by
  unfold atV
  have p0 : 0 ≤ (a + 1000) * ((r : Int) - (k : Int)) := Int.mul_nonneg (by omega) (by omega)
  have q0 : 0 ≤ (b + 1000) * (k : Int) := Int.mul_nonneg (by omega) (by omega)
  have p1 : (a + 1000) * ((r : Int) - (k : Int)) ≤ 2000 * ((r : Int) - (k : Int)) := Int.mul_le_mul_of_nonneg_right (by omega) (by omega)
  have q1 : (b + 1000) * (k : Int) ≤ 2000 * (k : Int) := Int.mul_le_mul_of_nonneg_right (by omega) (by omega)
  have h1 : 0 ≤ (2 * ((a + 1000) * ((r : Int) - (k : Int)) + (b + 1000) * (k : Int)) + (r : Int)) / (2 * (r : Int)) := Int.ediv_nonneg (by omega) (by omega)
  have h2 : (2 * ((a + 1000) * ((r : Int) - (k : Int)) + (b + 1000) * (k : Int)) + (r : Int)) / (2 * (r : Int)) < 2001 := (Int.ediv_lt_iff_lt_mul (by omega)).2 (by omega)
  omega
theorem ev_rng {a b : Int} {r k : Nat} (a0 : -1000 ≤ a) (a1 : a ≤ 1000) (b0 : -1000 ≤ b) (b1 : b ≤ 1000) (hr : 1 ≤ r) (hk : k ≤ r) : -1000 ≤ evenV a b r k ∧ evenV a b r k ≤ 1000 := by
  by_cases h : k % 2 = 1 ∧ k < r
  · obtain ⟨m, rfl⟩ : ∃ m, k = m + 1 := ⟨k - 1, by omega⟩
    rw [even_odd a b h.1 h.2]
    exact at_rng a0 a1 b0 b1 hr (by omega)
  · rw [even_even a b hk h]
    exact at_rng a0 a1 b0 b1 hr hk
theorem ev_near {a b : Int} {r k : Nat} (hr : 1 ≤ r) (hk : k ≤ r) (c : Int) (h1 : b - a ≤ c) (h2 : a - b ≤ c) :
    2 * ((r : Int) * (evenV a b r k - a) - (b - a) * (k : Int)) ≤ r + 2 * c ∧ -((r : Int) + 2 * c) ≤ 2 * ((r : Int) * (evenV a b r k - a) - (b - a) * (k : Int)) := by
  by_cases h : k % 2 = 1 ∧ k < r
  · obtain ⟨m, rfl⟩ : ∃ m, k = m + 1 := ⟨k - 1, by omega⟩
    rw [even_odd a b h.1 h.2]
    have := at_near (a := a) (b := b) (r := r) (k := m) hr
    have e : (b - a) * ((m + 1 : Nat) : Int) = (b - a) * (m : Int) + (b - a) := by rw [show ((m + 1 : Nat) : Int) = (m : Int) + 1 by omega, Int.mul_add, Int.mul_one]
    rw [e]; omega
  · rw [even_even a b hk h]
    have := at_near (a := a) (b := b) (r := r) (k := k) hr
    omega
end Go.Proofs.Ytegfmojjajoncaa
