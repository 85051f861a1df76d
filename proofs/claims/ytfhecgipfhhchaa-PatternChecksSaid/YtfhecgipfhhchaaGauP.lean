/- What gauge computes, in plain Lean. -/
namespace Go.Proofs.Ytfhecgipfhhchaa
set_option maxRecDepth 100000
/-- whether a number is in a range -/
def ginR (n lo hi : Int) : Bool := decide (lo ≤ n) && decide (n ≤ hi)
/-- the nearest number to num / den -/
def near (num den : Int) : Int := (2 * num + den) / (2 * den)
/-- whether a gauge is valid -/
def gok (a b c d : Int) : Bool := ginR a 1 10000 && ginR b 1 10000 && ginR c 1 10000 && ginR d 1 10000
def gerr (a b c d : Int) : Int := if gok a b c d then 0 else 8
def scaled (n most m result : Int) : Int × Int := if ginR n 0 most then (if m > result then (0, 16) else (m, 0)) else (0, 2)
def scaleG (ok : Bool) (n most m result : Int) : Int × Int := if ok then scaled n most m result else (0, 8)

theorem scaleG_bad (n most m result : Int) : scaleG false n most m result = (0, 8) := rfl
theorem scaleG_arg {n most : Int} (h : ginR n 0 most = false) (m result : Int) : scaleG true n most m result = (0, 2) := by simp [scaleG, scaled, h]
theorem scaleG_range {n most m result : Int} (h : ginR n 0 most = true) (k : result < m) : scaleG true n most m result = (0, 16) := by
  simp only [scaleG, scaled, h, if_true]; rw [if_pos k]
theorem scaleG_ok {n most m result : Int} (h : ginR n 0 most = true) (k : ¬ result < m) : scaleG true n most m result = (m, 0) := by
  simp only [scaleG, scaled, h, if_true]; rw [if_neg k]
theorem ginR_t {n lo hi : Int} (h : lo ≤ n) (k : n ≤ hi) : ginR n lo hi = true := by simp [ginR, h, k]
theorem ginR_f {n lo hi : Int} (h : n < lo ∨ hi < n) : ginR n lo hi = false := by simp [ginR]; omega
theorem ginR_e {n lo hi : Int} (h : ginR n lo hi = true) : lo ≤ n ∧ n ≤ hi := by simpa [ginR] using h
theorem ginR_n {n lo hi : Int} (h : ginR n lo hi = false) : n < lo ∨ hi < n := by simp [ginR] at h; omega

theorem gok_e {a b c d : Int} (h : gok a b c d = true) : (1 ≤ a ∧ a ≤ 10000) ∧ (1 ≤ b ∧ b ≤ 10000) ∧ (1 ≤ c ∧ c ≤ 10000) ∧ (1 ≤ d ∧ d ≤ 10000) := by
  simp only [gok, Bool.and_eq_true] at h
  exact ⟨ginR_e h.1.1.1, ginR_e h.1.1.2, ginR_e h.1.2, ginR_e h.2⟩
theorem ediv_of {a b q : Int} (hb : 0 < b) (h1 : q * b ≤ a) (h2 : a < (q + 1) * b) : a / b = q := by
  apply Int.le_antisymm
  · exact Int.lt_add_one_iff.1 ((Int.ediv_lt_iff_lt_mul hb).2 h2)
  · exact (Int.le_ediv_iff_mul_le hb).2 h1
theorem near_up {num den : Int} (_h0 : 0 ≤ num) (h2 : 1 ≤ den) (hc : den ≤ 2 * (num - num / den * den)) : near num den = num / den + 1 := by
  have h := Int.lt_ediv_add_one_mul_self num (show 0 < den by omega)
  unfold near
  generalize num / den = q at *
  have e1 : (q + 1) * (2 * den) = 2 * ((q + 1) * den) := by rw [Int.mul_left_comm]
  have e2 : (q + 1 + 1) * (2 * den) = 2 * ((q + 1) * den) + 2 * den := by rw [Int.add_mul (q + 1) 1, Int.one_mul, Int.mul_left_comm]
  have e3 : (q + 1) * den = q * den + den := by rw [Int.add_mul, Int.one_mul]
  exact ediv_of (by omega) (by omega) (by omega)
theorem near_down {num den : Int} (_h0 : 0 ≤ num) (h2 : 1 ≤ den) (hc : ¬ den ≤ 2 * (num - num / den * den)) : near num den = num / den := by
  have h := Int.ediv_mul_le num (show den ≠ 0 by omega)
  unfold near
  generalize num / den = q at *
  have e1 : q * (2 * den) = 2 * (q * den) := by rw [Int.mul_left_comm]
  have e2 : (q + 1) * (2 * den) = 2 * (q * den) + 2 * den := by rw [Int.add_mul q 1, Int.one_mul, Int.mul_left_comm]
  exact ediv_of (by omega) (by omega) (by omega)
/-- the number of Fit -/
def fitN (a b width every extra : Int) : Int :=
  if 0 < width * a - extra * b then extra + every * ((2 * (width * a - extra * b) + every * b - 1) / (2 * (every * b))) else extra
def fitG (ok : Bool) (a b width every extra : Int) : Int × Int :=
  if ok then (if ginR width 0 1000000 && ginR every 1 1000 && ginR extra 0 1000 then (if 1000000 < fitN a b width every extra then (0, 16) else (fitN a b width every extra, 0)) else (0, 2)) else (0, 8)
theorem fitG_arg (a b width every extra : Int) (h : (ginR width 0 1000000 && ginR every 1 1000 && ginR extra 0 1000) = false) : fitG true a b width every extra = (0, 2) := by simp [fitG, h]
theorem fitG_range {a b width every extra : Int} (h : (ginR width 0 1000000 && ginR every 1 1000 && ginR extra 0 1000) = true) (k : 1000000 < fitN a b width every extra) : fitG true a b width every extra = (0, 16) := by
  simp only [fitG, h, if_true]; rw [if_pos k]
theorem fitG_ok {a b width every extra : Int} (h : (ginR width 0 1000000 && ginR every 1 1000 && ginR extra 0 1000) = true) (k : ¬ 1000000 < fitN a b width every extra) : fitG true a b width every extra = (fitN a b width every extra, 0) := by
  simp only [fitG, h, if_true]; rw [if_neg k]
/-- how far a number of stitches is from a width -/
def away (a b width n : Int) : Int := max (n * b - width * a) (-(n * b - width * a))
/-- the search of the reference ends at a number: what it then returns is the number of Fit -/
theorem fit_core {a b width every extra n k : Int} (hT : 1 ≤ every * b) (hk : 1 ≤ k) (hn : n = extra + every * k) (hp : (n - every) * b < width * a) :
    0 < width * a - extra * b ∧ k - 1 ≤ (2 * (width * a - extra * b) + every * b - 1) / (2 * (every * b)) ∧
    (¬ n * b < width * a → (away a b width (n - every) ≤ away a b width n → fitN a b width every extra = n - every) ∧ (¬ away a b width (n - every) ≤ away a b width n → fitN a b width every extra = n)) := by
  have e1 : n * b = extra * b + k * (every * b) := by rw [hn, Int.add_mul, Int.mul_comm every k, Int.mul_assoc]
  have e2 : (n - every) * b = extra * b + k * (every * b) - every * b := by rw [Int.sub_mul, e1]
  have e3 : (k - 1) * (2 * (every * b)) = 2 * (k * (every * b)) - 2 * (every * b) := by rw [Int.sub_mul, Int.one_mul, Int.mul_left_comm]
  have e4 : k * (2 * (every * b)) = 2 * (k * (every * b)) := by rw [Int.mul_left_comm]
  have e5 : (k + 1) * (2 * (every * b)) = 2 * (k * (every * b)) + 2 * (every * b) := by rw [Int.add_mul, Int.one_mul, Int.mul_left_comm]
  have e6 : every * b ≤ k * (every * b) := by
    have := Int.mul_le_mul_of_nonneg_right hk (show 0 ≤ every * b by omega)
    rwa [Int.one_mul] at this
  have e7 : every * (k - 1) = every * k - every := by rw [Int.mul_sub, Int.mul_one]
  have hR : 0 < width * a - extra * b := by omega
  refine ⟨hR, (Int.le_ediv_iff_mul_le (by omega)).2 (by omega), fun hx => ?_⟩
  have a1 : away a b width n = n * b - width * a := by unfold away; omega
  have a2 : away a b width (n - every) = -((n - every) * b - width * a) := by unfold away; omega
  rw [a1, a2, fitN, if_pos hR]
  refine ⟨fun h => ?_, fun h => ?_⟩
  · rw [ediv_of (q := k - 1) (by omega) (by omega) (by rw [show k - 1 + 1 = k by omega]; omega), e7]; omega
  · rw [ediv_of (q := k) (by omega) (by omega) (by omega)]; omega
theorem fit_far {a b width every extra n k : Int} (hv : 1 ≤ every) (hT : 1 ≤ every * b) (hk : 1 ≤ k) (hn : n = extra + every * k) (hp : (n - every) * b < width * a) : n - every ≤ fitN a b width every extra := by
  obtain ⟨h1, h2, -⟩ := fit_core hT hk hn hp
  rw [fitN, if_pos h1]
  have h3 := Int.mul_le_mul_of_nonneg_left h2 (show 0 ≤ every by omega)
  rw [Int.mul_sub, Int.mul_one] at h3
  omega
theorem fit_none {a b width every extra : Int} (h : ¬ extra * b < width * a) : fitN a b width every extra = extra := by rw [fitN, if_neg (by omega)]
theorem pos_k {n extra every k : Int} (h : extra < n) (_hv : 1 ≤ every) (hk : n = extra + every * k) : 1 ≤ k := by
  rcases Int.lt_or_le 0 k with h0 | h0
  · omega
  · have := Int.mul_le_mul_of_nonneg_left h0 (show 0 ≤ every by omega)
    rw [Int.mul_zero] at this
    omega
end Go.Proofs.Ytfhecgipfhhchaa
