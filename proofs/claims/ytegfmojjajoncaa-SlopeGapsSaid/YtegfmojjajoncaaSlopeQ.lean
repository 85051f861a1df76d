/- The plain laws of slope. -/
import Derived.Test.YtegfmojjajoncaaSlopeP
namespace Go.Proofs.Ytegfmojjajoncaa

/-- the numbers of a line -/
def lnF (a b : Int) (r : Nat) : List Int := (List.range (r + 1)).map (fun i : Nat => atV a b r (i : Int))
def evF (a b : Int) (r : Nat) : List Int := (List.range (r + 1)).map (evenV a b r)
theorem lnF_get {a b : Int} {r k : Nat} (hk : k < r + 1) : (lnF a b r).getD k 0 = atV a b r k := line_get hk
theorem evF_get {a b : Int} {r k : Nat} (hk : k < r + 1) : (evF a b r).getD k 0 = evenV a b r k := by
  simp [evF, List.getD_eq_getElem?_getD, hk]
/-- where a number of a line lies -/
theorem at_spec {a b : Int} {r k : Nat} (hr : 1 ≤ r) : 2 * ((r : Int) * (atV a b r k - a)) ≤ 2 * ((b - a) * (k : Int)) + r ∧ 2 * ((b - a) * (k : Int)) + r < 2 * ((r : Int) * (atV a b r k - a)) + 2 * r := by
  have e := at_down (a := a) (b := b) (r := r) (k := k) hr
  have h1 := Int.ediv_mul_le (2 * (b - a) * (k : Int) + (r : Int)) (show 2 * (r : Int) ≠ 0 by omega)
  have h2 := Int.lt_ediv_add_one_mul_self (2 * (b - a) * (k : Int) + (r : Int)) (show 0 < 2 * (r : Int) by omega)
  rw [show atV a b r k - a = (2 * (b - a) * (k : Int) + (r : Int)) / (2 * (r : Int)) by omega]
  generalize (2 * (b - a) * (k : Int) + (r : Int)) / (2 * (r : Int)) = q at *
  rw [Int.add_mul, Int.one_mul, Int.mul_left_comm, Int.mul_comm q, Int.mul_assoc] at h2
  rw [Int.mul_left_comm, Int.mul_comm q, Int.mul_assoc] at h1
  omega
theorem at_near {a b : Int} {r k : Nat} (hr : 1 ≤ r) : 2 * ((r : Int) * (atV a b r k - a) - (b - a) * (k : Int)) ≤ r ∧ -(r : Int) ≤ 2 * ((r : Int) * (atV a b r k - a) - (b - a) * (k : Int)) := by
  have := at_spec (a := a) (b := b) (k := k) hr
  omega
theorem at_zero {a b : Int} {r : Nat} (hr : 1 ≤ r) : atV a b r ((0 : Nat) : Int) = a := by
  have e := at_down (a := a) (b := b) (r := r) (k := 0) hr
  rw [← e, ediv_of (q := 0) (by omega) (by omega) (by omega)]; omega
theorem at_end {a b : Int} {r : Nat} (hr : 1 ≤ r) : atV a b r (r : Int) = b := by
  have e := at_down (a := a) (b := b) (r := r) (k := r) hr
  rw [← e, ediv_of (q := b - a) (by omega) (by rw [Int.mul_left_comm, Int.mul_assoc]; omega) (by rw [Int.add_mul, Int.mul_left_comm, Int.mul_assoc]; omega)]; omega
theorem ev_zero {a b : Int} {r : Nat} (hr : 1 ≤ r) : evenV a b r 0 = a := by
  rw [even_even a b (by omega) (by omega)]; exact at_zero hr
theorem ev_end {a b : Int} {r : Nat} (hr : 1 ≤ r) : evenV a b r r = b := by
  rw [even_even a b (by omega) (by omega)]; exact at_end hr
theorem at_rng {a b : Int} {r k : Nat} (a0 : -1000 ≤ a) (a1 : a ≤ 1000) (b0 : -1000 ≤ b) (b1 : b ≤ 1000) (hr : 1 ≤ r) (hk : k ≤ r) : -1000 ≤ atV a b r k ∧ atV a b r k ≤ 1000 := by
  unfold atV
  have p0 : 0 ≤ (a + 1000) * ((r : Int) - (k : Int)) := Int.mul_nonneg (by omega) (by omega)
  have q0 : 0 ≤ (b + 1000) * (k : Int) := Int.mul_nonneg (by omega) (by omega)
  have p1 : (a + 1000) * ((r : Int) - (k : Int)) ≤ 2000 * ((r : Int) - (k : Int)) := Int.mul_le_mul_of_nonneg_right (by omega) (by omega)
  have q1 : (b + 1000) * (k : Int) ≤ 2000 * (k : Int) := Int.mul_le_mul_of_nonneg_right (by omega) (by omega)
  have h1 : 0 ≤ (2 * ((a + 1000) * ((r : Int) - (k : Int)) + (b + 1000) * (k : Int)) + (r : Int)) / (2 * (r : Int)) := Int.ediv_nonneg (by omega) (by omega)
  have h2 : (2 * ((a + 1000) * ((r : Int) - (k : Int)) + (b + 1000) * (k : Int)) + (r : Int)) / (2 * (r : Int)) < 2001 := (Int.ediv_lt_iff_lt_mul (by omega)).2 (by omega)
  omega
theorem ev_rng {a b : Int} {r k : Nat} (a0 : -1000 ≤ a) (a1 : a ≤ 1000) (b0 : -1000 ≤ b) (b1 : b ≤ 1000) (hr : 1 ≤ r) (hk : k ≤ r) : -1000 ≤ evenV a b r k ∧ evenV a b r k ≤ 1000 := by
  by_cases h : k % 2 = 1 ∧ k < r
  · obtain ⟨m, rfl⟩ : ∃ m, k = m + 1 := ⟨k - 1, by omega⟩
    rw [even_odd a b h.1 h.2]
    exact at_rng a0 a1 b0 b1 hr (by omega)
  · rw [even_even a b hk h]
    exact at_rng a0 a1 b0 b1 hr hk
theorem ev_near {a b : Int} {r k : Nat} (hr : 1 ≤ r) (hk : k ≤ r) (c : Int) (h1 : b - a ≤ c) (h2 : a - b ≤ c) :
    2 * ((r : Int) * (evenV a b r k - a) - (b - a) * (k : Int)) ≤ r + 2 * c ∧ -((r : Int) + 2 * c) ≤ 2 * ((r : Int) * (evenV a b r k - a) - (b - a) * (k : Int)) := by
  by_cases h : k % 2 = 1 ∧ k < r
  · obtain ⟨m, rfl⟩ : ∃ m, k = m + 1 := ⟨k - 1, by omega⟩
    rw [even_odd a b h.1 h.2]
    have := at_near (a := a) (b := b) (r := r) (k := m) hr
    have e : (b - a) * ((m + 1 : Nat) : Int) = (b - a) * (m : Int) + (b - a) := by rw [show ((m + 1 : Nat) : Int) = (m : Int) + 1 by omega, Int.mul_add, Int.mul_one]
    rw [e]; omega
  · rw [even_even a b hk h]
    have := at_near (a := a) (b := b) (r := r) (k := k) hr
    omega
theorem at_move {a b by_ : Int} {r k : Nat} (hr : 1 ≤ r) : atV (a + by_) (b + by_) r k = atV a b r k + by_ := by
  have e1 := at_down (a := a) (b := b) (r := r) (k := k) hr
  have e2 := at_down (a := a + by_) (b := b + by_) (r := r) (k := k) hr
  rw [show b + by_ - (a + by_) = b - a by omega] at e2
  omega
theorem at_turn {a b : Int} {r k : Nat} (hk : k ≤ r) : atV b a r ((r - k : Nat) : Int) = atV a b r k := by
  unfold atV
  rw [show (r : Int) - ((r - k : Nat) : Int) = (k : Int) by omega, show ((r - k : Nat) : Int) = (r : Int) - (k : Int) by omega, Int.add_comm ((b + 1000) * _)]
/-- the steps of a line -/
def stF (a b : Int) (r : Nat) : List Int := (List.range r).map (stepV (lnF a b r))
theorem stF_get {a b : Int} {r k : Nat} (hk : k < r) : (stF a b r).getD k 0 = atV a b r ((k + 1 : Nat) : Int) - atV a b r k := by
  simp only [stF, List.getD_eq_getElem?_getD, List.getElem?_map, List.getElem?_range hk, Option.map_some, Option.getD_some]
  rw [stepV, lnF_get (by omega), lnF_get (by omega)]
theorem stF_ok {a b : Int} {r : Nat} (h : lnOk a b r = true) : stE (lnF a b r) = 0 ∧ stepsL (lnF a b r) = stF a b r := by
  obtain ⟨a0, a1, b0, b1, r0, r1⟩ := lnOk_e h
  have hl : (lnF a b r).length = r + 1 := by simp [lnF]
  have he : stE (lnF a b r) = 0 := stE_ok (n := r + 1) (by omega) hl fun j hj => by
    rw [lnF_get hj]
    obtain ⟨x0, x1⟩ := at_rng (r := r) (k := j) a0 a1 b0 b1 (by omega) (by omega)
    exact inR_t x0 x1
  refine ⟨he, ?_⟩
  rw [stepsL, if_pos he, hl]
  rfl
theorem at_steady {a b : Int} {r i k m : Nat} (hr : 1 ≤ r) :
    (atV a b r ((i + m : Nat) : Int) - atV a b r i) - (atV a b r ((k + m : Nat) : Int) - atV a b r k) ≤ 1 := by
  have h1 := at_spec (a := a) (b := b) (k := i + m) hr
  have h2 := at_spec (a := a) (b := b) (k := i) hr
  have h3 := at_spec (a := a) (b := b) (k := k + m) hr
  have h4 := at_spec (a := a) (b := b) (k := k) hr
  have e1 : (b - a) * ((i + m : Nat) : Int) = (b - a) * (i : Int) + (b - a) * (m : Int) := by rw [← Int.mul_add]; rfl
  have e2 : (b - a) * ((k + m : Nat) : Int) = (b - a) * (k : Int) + (b - a) * (m : Int) := by rw [← Int.mul_add]; rfl
  rw [e1] at h1
  rw [e2] at h3
  generalize hp : atV a b r ((i + m : Nat) : Int) - a = p at h1
  generalize hq : atV a b r (i : Int) - a = q at h2
  generalize hs : atV a b r ((k + m : Nat) : Int) - a = s at h3
  generalize ht : atV a b r (k : Int) - a = t at h4
  rcases Int.lt_or_le 1 ((p - q) - (s - t)) with h | h
  · have h5 := Int.mul_le_mul_of_nonneg_left (show 2 ≤ (p - q) - (s - t) by omega) (show 0 ≤ (r : Int) by omega)
    rw [Int.mul_sub, Int.mul_sub, Int.mul_sub] at h5
    omega
  · omega
theorem lnOk_t {a b rows : Int} (a0 : -1000 ≤ a) (a1 : a ≤ 1000) (b0 : -1000 ≤ b) (b1 : b ≤ 1000) (r0 : 1 ≤ rows) (r1 : rows ≤ 1000) : lnOk a b rows = true := by
  simp [lnOk, inR_t, a0, a1, b0, b1, r0, r1]
end Go.Proofs.Ytegfmojjajoncaa
