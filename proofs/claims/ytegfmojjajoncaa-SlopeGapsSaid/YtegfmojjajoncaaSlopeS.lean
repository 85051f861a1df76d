/- The plain laws of gaps and marks. -/
import Derived.Test.YtegfmojjajoncaaSlopeQ
namespace Go.Proofs.Ytegfmojjajoncaa

/-- a quotient and the quotient behind a step of one more number -/
theorem div_two {x y d : Int} (hd : 1 ≤ d) : (x + y) / d - x / d = y / d ∨ (x + y) / d - x / d = y / d + 1 := by
  have a1 := Int.ediv_mul_le x (show d ≠ 0 by omega)
  have a2 := Int.lt_ediv_add_one_mul_self x (show 0 < d by omega)
  have b1 := Int.ediv_mul_le y (show d ≠ 0 by omega)
  have b2 := Int.lt_ediv_add_one_mul_self y (show 0 < d by omega)
  rw [Int.add_mul, Int.one_mul] at a2 b2
  generalize x / d = p at *
  generalize y / d = q at *
  rcases Int.lt_or_le (x + y) (p * d + q * d + d) with h | h
  · left
    rw [ediv_of (q := p + q) (by omega) (by rw [Int.add_mul]; omega) (by rw [Int.add_mul, Int.add_mul, Int.one_mul]; omega)]
    omega
  · right
    rw [ediv_of (q := p + q + 1) (by omega) (by rw [Int.add_mul, Int.add_mul, Int.one_mul]; omega) (by rw [Int.add_mul, Int.add_mul, Int.add_mul, Int.one_mul]; omega)]
    omega
theorem gap_two {R : Int} {c k : Nat} (hc : 1 ≤ c) : gapV R c k = R / c ∨ gapV R c k = R / c + 1 := by
  unfold gapV
  rw [Int.add_mul, Int.one_mul]
  exact div_two (by omega)
theorem mark_two {R : Int} {c k : Nat} (hc : 1 ≤ c) : markV R c (k + 1) - markV R c k = R / c ∨ markV R c (k + 1) - markV R c k = R / c + 1 := by
  unfold markV
  have h := div_two (x := (2 * (k : Int) + 1) * R) (y := 2 * R) (d := 2 * (c : Int)) (by omega)
  rw [Int.mul_ediv_mul_of_pos _ _ (by omega)] at h
  have e : (2 * ((k + 1 : Nat) : Int) + 1) * R = (2 * (k : Int) + 1) * R + 2 * R := by
    rw [show (2 * ((k + 1 : Nat) : Int) + 1) = (2 * (k : Int) + 1) + 2 by omega, Int.add_mul]
  rw [e]; exact h
theorem mark_rng {R : Int} {c k : Nat} (hR : 1 ≤ R) (hk : k < c) : 0 ≤ markV R c k ∧ markV R c k < R := by
  unfold markV
  refine ⟨Int.ediv_nonneg (Int.mul_nonneg (by omega) (by omega)) (by omega), (Int.ediv_lt_iff_lt_mul (by omega)).2 ?_⟩
  have := Int.mul_le_mul_of_nonneg_right (show 2 * (k : Int) + 1 ≤ 2 * (c : Int) - 1 by omega) (show 0 ≤ R by omega)
  rw [Int.sub_mul, Int.one_mul, Int.mul_comm (2 * (c : Int))] at this
  omega
theorem mark_ends {R : Int} {c : Nat} (_hR : 1 ≤ R) (hc : 1 ≤ c) :
    markV R c 0 - (R - 1 - markV R c (c - 1)) ≤ 1 ∧ (R - 1 - markV R c (c - 1)) - markV R c 0 ≤ 1 := by
  unfold markV
  have a1 := Int.ediv_mul_le ((2 * ((0 : Nat) : Int) + 1) * R) (show 2 * (c : Int) ≠ 0 by omega)
  have a2 := Int.lt_ediv_add_one_mul_self ((2 * ((0 : Nat) : Int) + 1) * R) (show 0 < 2 * (c : Int) by omega)
  have b1 := Int.ediv_mul_le ((2 * ((c - 1 : Nat) : Int) + 1) * R) (show 2 * (c : Int) ≠ 0 by omega)
  have b2 := Int.lt_ediv_add_one_mul_self ((2 * ((c - 1 : Nat) : Int) + 1) * R) (show 0 < 2 * (c : Int) by omega)
  have e : (2 * ((c - 1 : Nat) : Int) + 1) * R = R * (2 * (c : Int)) - R := by
    rw [show (2 * ((c - 1 : Nat) : Int) + 1) = 2 * (c : Int) - 1 by omega, Int.sub_mul, Int.one_mul, Int.mul_comm]
  have e0 : (2 * ((0 : Nat) : Int) + 1) * R = R := by rw [show (2 * ((0 : Nat) : Int) + 1) = 1 by omega, Int.one_mul]
  rw [e0] at a1 a2
  rw [e] at b1 b2
  rw [e, e0]
  rw [Int.add_mul, Int.one_mul] at a2 b2
  generalize R / (2 * (c : Int)) = p at *
  generalize (R * (2 * (c : Int)) - R) / (2 * (c : Int)) = q at *
  have k1 : (R - q - p) * (2 * (c : Int)) = R * (2 * (c : Int)) - q * (2 * (c : Int)) - p * (2 * (c : Int)) := by rw [Int.sub_mul, Int.sub_mul]
  have k2 : 0 ≤ (R - q - p) * (2 * (c : Int)) := by omega
  have k3 : (R - q - p) * (2 * (c : Int)) < 2 * (2 * (c : Int)) := by omega
  constructor
  · rcases Int.lt_or_le (R - q - p) 0 with h | h
    · have := Int.mul_le_mul_of_nonneg_right (show R - q - p ≤ -1 by omega) (show 0 ≤ 2 * (c : Int) by omega)
      omega
    · omega
  · rcases Int.lt_or_le (R - q - p) 2 with h | h
    · omega
    · have := Int.mul_le_mul_of_nonneg_right h (show 0 ≤ 2 * (c : Int) by omega)
      omega
theorem sum_rng {R : Int} {c k : Nat} (hR : 1 ≤ R) (hk : k < c) : 0 ≤ (k : Int) * R / c ∧ (k : Int) * R / c ≤ R := by
  refine ⟨Int.ediv_nonneg (Int.mul_nonneg (by omega) (by omega)) (by omega), Int.lt_add_one_iff.1 ((Int.ediv_lt_iff_lt_mul (by omega)).2 ?_)⟩
  have := Int.mul_le_mul_of_nonneg_right (show (k : Int) ≤ c by omega) (show 0 ≤ R by omega)
  rw [Int.add_mul, Int.one_mul, Int.mul_comm R]
  omega
/-- how many of the first gaps are greater -/
theorem gap_end {R : Int} {c : Nat} (hc : 1 ≤ c) : (c : Int) * R / c = R ∧ R - (c : Int) * (R / c) = R % c := by
  refine ⟨Int.mul_ediv_cancel_left _ (by omega), ?_⟩
  have := Int.emod_add_mul_ediv R c
  omega
end Go.Proofs.Ytegfmojjajoncaa
