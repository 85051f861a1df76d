/- The plain laws of gauge: the nearest number, the number of Fit. -/
import Derived.Test.YtgcdbnhddjajbaaGaugeP
namespace Go.Proofs.Ytgcdbnhddjajbaa

theorem near_spec {num den : Int} (hd : 1 ≤ den) : 2 * (near num den * den) ≤ 2 * num + den ∧ 2 * num + den < 2 * (near num den * den) + 2 * den := by
  unfold near
  have h1 := Int.ediv_mul_le (2 * num + den) (show 2 * den ≠ 0 by omega)
  have h2 := Int.lt_ediv_add_one_mul_self (2 * num + den) (show 0 < 2 * den by omega)
  generalize (2 * num + den) / (2 * den) = q at *
  rw [Int.add_mul, Int.one_mul] at h2
  rw [Int.mul_left_comm] at h1 h2
  omega
theorem near_eq {num den q : Int} (hd : 1 ≤ den) (h1 : 2 * (q * den) ≤ 2 * num + den) (h2 : 2 * num + den < 2 * (q * den) + 2 * den) : near num den = q := by
  unfold near
  apply ediv_of (by omega)
  · rw [Int.mul_left_comm]; omega
  · rw [Int.add_mul, Int.one_mul, Int.mul_left_comm]; omega
theorem near_nonneg {num den : Int} (hn : 0 ≤ num) (hd : 1 ≤ den) : 0 ≤ near num den := Int.ediv_nonneg (by omega) (by omega)
/-- a multiple is greater by the divisor if the number is greater by one -/
theorem mul_lt_step {x y d : Int} (hd : 1 ≤ d) (h : x < y) : x * d + d ≤ y * d := by
  have := Int.mul_le_mul_of_nonneg_right (show x + 1 ≤ y by omega) (show 0 ≤ d by omega)
  rwa [Int.add_mul, Int.one_mul] at this
theorem mul_le_step {x y d : Int} (hd : 1 ≤ d) (h : x ≤ y) : x * d ≤ y * d := Int.mul_le_mul_of_nonneg_right h (by omega)
theorem near_mono {num num' den : Int} (hd : 1 ≤ den) (h : num ≤ num') : near num den ≤ near num' den := by
  rcases Int.lt_or_le (near num' den) (near num den) with h0 | h0
  · have := mul_lt_step hd h0
    have a := near_spec (num := num) hd
    have b := near_spec (num := num') hd
    omega
  · exact h0
/-- no other number of stitches is nearer to a width, and of two that are equally near the greater one is returned -/
theorem near_least {a b width n : Int} (hb : 1 ≤ b) : away a b width (near (width * a) b) ≤ away a b width n ∧ (away a b width (near (width * a) b) = away a b width n → n ≤ near (width * a) b) := by
  have s := near_spec (num := width * a) hb
  generalize near (width * a) b = q at *
  rcases Int.lt_trichotomy n q with h | h | h
  · have := mul_lt_step hb h
    unfold away; omega
  · subst h; omega
  · have := mul_lt_step hb h
    unfold away; omega
theorem near_sum {x y den : Int} (hd : 1 ≤ den) : near (x + y) den - near x den - near y den ≤ 1 ∧ near x den + near y den - near (x + y) den ≤ 1 := by
  have a := near_spec (num := x) hd
  have b := near_spec (num := y) hd
  have c := near_spec (num := x + y) hd
  generalize near x den = p at *
  generalize near y den = q at *
  generalize near (x + y) den = r at *
  constructor
  · rcases Int.lt_or_le (p + q + 1) r with h | h
    · have := mul_lt_step hd h
      rw [Int.add_mul, Int.add_mul, Int.one_mul] at this
      omega
    · omega
  · rcases Int.lt_or_le (r + 1) (p + q) with h | h
    · have := mul_lt_step hd h
      rw [Int.add_mul, Int.add_mul, Int.one_mul] at this
      omega
    · omega
theorem near_mul {n d : Int} (hd : 1 ≤ d) : near (n * d) d = n := near_eq hd (by omega) (by omega)
theorem near_scale {x d t : Int} (hd : 1 ≤ d) (ht : 1 ≤ t) : near (x * t) (d * t) = near x d := by
  have s := near_spec (num := x) hd
  generalize near x d = q at *
  have hdt : 1 ≤ d * t := Int.mul_pos (by omega) (by omega)
  refine near_eq hdt ?_ ?_
  · have h := mul_le_step ht s.1
    rw [Int.mul_assoc, Int.add_mul, Int.mul_assoc, Int.mul_assoc] at h
    omega
  · have h := mul_lt_step ht s.2
    have e1 : (2 * x + d) * t = 2 * (x * t) + d * t := by rw [Int.add_mul, Int.mul_assoc]
    have e2 : (2 * (q * d) + 2 * d) * t = 2 * (q * (d * t)) + 2 * (d * t) := by rw [Int.add_mul, Int.mul_assoc, Int.mul_assoc, Int.mul_assoc]
    rw [e1, e2] at h
    omega
theorem near_back {n a b : Int} (ha : 1 ≤ a) (hab : a ≤ b) : near (near (n * b) a * a) b = n := by
  have s := near_spec (num := n * b) ha
  rcases Int.lt_or_le a b with h | h
  · exact near_eq (by omega) (by omega) (by omega)
  · obtain rfl : a = b := by omega
    rw [near_mul ha, near_mul ha]
theorem scale_fst {n most m result : Int} (h : (scaleG true n most m result).2 = 0) : inR n 0 most = true ∧ m ≤ result ∧ scaleG true n most m result = (m, 0) := by
  unfold scaleG scaled at *
  simp only [if_true] at *
  split at h
  · split at h
    · cases h
    · rename_i h1 h2
      exact ⟨h1, by omega, by rw [if_pos h1, if_neg h2]⟩
  · cases h
theorem scale_err (ok : Bool) (n most m result : Int) : (scaleG ok n most m result).2 = 0 ∨ (scaleG ok n most m result).2 = 2 ∨ (scaleG ok n most m result).2 = 8 ∨ (scaleG ok n most m result).2 = 16 := by
  unfold scaleG scaled; split
  · split
    · split <;> simp
    · simp
  · simp
theorem fit_err (a b width every extra : Int) : (fitG true a b width every extra).2 = 0 ∨ (fitG true a b width every extra).2 = 2 ∨ (fitG true a b width every extra).2 = 16 := by
  unfold fitG; simp only [if_true]; split
  · split <;> simp
  · simp
theorem fit_fst {a b width every extra : Int} (h : (fitG true a b width every extra).2 = 0) :
    (0 ≤ width ∧ width ≤ 1000000) ∧ (1 ≤ every ∧ every ≤ 1000) ∧ (0 ≤ extra ∧ extra ≤ 1000) ∧ fitN a b width every extra ≤ 1000000 ∧ fitG true a b width every extra = (fitN a b width every extra, 0) := by
  unfold fitG at *
  simp only [if_true] at *
  split at h
  · rename_i h1
    split at h
    · cases h
    · rename_i h2
      have h3 := h1
      simp only [Bool.and_eq_true] at h3
      exact ⟨inR_e h3.1.1, inR_e h3.1.2, inR_e h3.2, by omega, by rw [if_pos h1, if_neg h2]⟩
  · cases h
/-- the number of Fit is one of a repeat, and no number of a repeat is nearer -/
theorem fit_least {a b width every extra k : Int} (hb : 1 ≤ b) (he : 1 ≤ every) (hk : 0 ≤ k) :
    ∃ q : Int, 0 ≤ q ∧ fitN a b width every extra = extra + every * q ∧
      (away a b width (fitN a b width every extra) < away a b width (extra + k * every) ∨ away a b width (fitN a b width every extra) = away a b width (extra + k * every) ∧ fitN a b width every extra ≤ extra + k * every) := by
  have hT : 1 ≤ every * b := Int.mul_pos (by omega) (by omega)
  have ek : (extra + k * every) * b = extra * b + k * (every * b) := by rw [Int.add_mul, Int.mul_assoc]
  unfold fitN
  by_cases hr : 0 < width * a - extra * b
  · rw [if_pos hr]
    have h1 := Int.ediv_mul_le (2 * (width * a - extra * b) + every * b - 1) (show 2 * (every * b) ≠ 0 by omega)
    have h2 := Int.lt_ediv_add_one_mul_self (2 * (width * a - extra * b) + every * b - 1) (show 0 < 2 * (every * b) by omega)
    have h0 : 0 ≤ (2 * (width * a - extra * b) + every * b - 1) / (2 * (every * b)) := Int.ediv_nonneg (by omega) (by omega)
    generalize (2 * (width * a - extra * b) + every * b - 1) / (2 * (every * b)) = q at *
    rw [Int.add_mul, Int.one_mul] at h2
    rw [Int.mul_left_comm] at h1 h2
    refine ⟨q, h0, rfl, ?_⟩
    have eq : (extra + every * q) * b = extra * b + q * (every * b) := by rw [Int.add_mul, Int.mul_comm every q, Int.mul_assoc]
    rcases Int.lt_trichotomy k q with h | h | h
    · have := mul_lt_step hT h
      left; unfold away; rw [eq, ek]; omega
    · subst h
      right; rw [Int.mul_comm every k]; omega
    · have := mul_lt_step hT h
      have h3 := mul_le_step he (show q ≤ k by omega)
      rw [Int.mul_comm every q]
      rw [Int.mul_comm every q] at eq
      unfold away; rw [eq, ek]; omega
  · rw [if_neg hr]
    refine ⟨0, by omega, by omega, ?_⟩
    have h3 := Int.mul_nonneg hk (show 0 ≤ every * b by omega)
    have h4 := Int.mul_nonneg hk (show 0 ≤ every by omega)
    unfold away; rw [ek]; omega
/-- a measure has an error, or is the nearest number -/
theorem scale_three (ok : Bool) (hg : ok = true) (n m : Int) :
    (∃ v e, scaleG ok n 1000000 m 1000000 = (v, e) ∧ (e == 0) = false ∧ (e != 0) = true) ∨ ((0 ≤ n ∧ n ≤ 1000000) ∧ m ≤ 1000000 ∧ scaleG ok n 1000000 m 1000000 = (m, 0)) := by
  subst hg
  unfold scaleG scaled
  simp only [if_true]
  by_cases h : inR n 0 1000000 = true
  · rw [if_pos h]
    by_cases k : m > 1000000
    · rw [if_pos k]; exact .inl ⟨0, 16, rfl, rfl, rfl⟩
    · rw [if_neg k]; exact .inr ⟨inR_e h, by omega, rfl⟩
  · rw [if_neg h]; exact .inl ⟨0, 2, rfl, rfl, rfl⟩
theorem scale_is {ok : Bool} (hg : ok = true) {n m v : Int} (n0 : 0 ≤ n) (n1 : n ≤ 1000000) (hm : m = v) (k : v ≤ 1000000) : scaleG ok n 1000000 m 1000000 = (v, 0) := by
  subst hg; subst hm
  unfold scaleG scaled
  simp only [if_true]
  rw [if_pos (inR_t n0 n1), if_neg (by omega)]
theorem back_ok {ok : Bool} (hg : ok = true) {a b n : Int} (ha : 1 ≤ a) (hab : a ≤ b) (hn : 0 ≤ n ∧ n ≤ 1000000) (hm : near (n * b) a ≤ 1000000) :
    scaleG ok (near (n * b) a) 1000000 (near (near (n * b) a * a) b) 1000000 = (n, 0) :=
  scale_is hg (near_nonneg (Int.mul_nonneg hn.1 (by omega)) ha) hm (near_back ha hab) hn.2
theorem same_ok {ok : Bool} (hg : ok = true) {a b n : Int} (ha : 1 ≤ a) (hb : 1 ≤ b) (n0 : 0 ≤ n) (n1 : n ≤ 1000000) : scaleG (ok && ok) n 1000000 (near (n * (b * a)) (a * b)) 1000000 = (n, 0) :=
  scale_is (by rw [hg]; rfl) n0 n1 (by rw [Int.mul_comm b a]; exact near_mul (Int.mul_pos (by omega) (by omega))) n1
theorem same_ok2 {ok ok' : Bool} (hg : ok = true) (hh : ok' = true) {a b t n : Int} (ha : 1 ≤ a) (hb : 1 ≤ b) (ht : 1 ≤ t) (n0 : 0 ≤ n) (n1 : n ≤ 1000000) :
    scaleG (ok && ok') n 1000000 (near (n * (b * (a * t))) (a * (b * t))) 1000000 = (n, 0) :=
  scale_is (by rw [hg, hh]; rfl) n0 n1 (by rw [Int.mul_left_comm b a t]; exact near_mul (Int.mul_pos (by omega) (Int.mul_pos (by omega) (by omega)))) n1
theorem same_st {ok ok' : Bool} (hg : ok = true) (hh : ok' = true) {a b t : Int} (w : Int) (hb : 1 ≤ b) (ht : 1 ≤ t) :
    scaleG ok' w 1000000 (near (w * (a * t)) (b * t)) 1000000 = ((scaleG ok w 1000000 (near (w * a) b) 1000000).1, (scaleG ok w 1000000 (near (w * a) b) 1000000).2) := by
  rw [hg, hh, ← Int.mul_assoc, near_scale hb ht]
theorem same_wd {ok ok' : Bool} (hg : ok = true) (hh : ok' = true) {a b t : Int} (n : Int) (ha : 1 ≤ a) (ht : 1 ≤ t) :
    scaleG ok' n 1000000 (near (n * (b * t)) (a * t)) 1000000 = ((scaleG ok n 1000000 (near (n * b) a) 1000000).1, (scaleG ok n 1000000 (near (n * b) a) 1000000).2) := by
  rw [hg, hh, ← Int.mul_assoc, near_scale ha ht]
theorem order_lo {ok : Bool} (hg : ok = true) {num den x y : Int} (hd : 1 ≤ den) (hn : 0 ≤ num) (x0 : 0 ≤ x) (xy : x ≤ y) (hy : 0 ≤ y ∧ y ≤ 1000000) (hm : near (y * num) den ≤ 1000000) :
    scaleG ok x 1000000 (near (x * num) den) 1000000 = (near (x * num) den, 0) ∧ near (x * num) den ≤ near (y * num) den := by
  have h := near_mono hd (Int.mul_le_mul_of_nonneg_right xy hn)
  exact ⟨scale_is hg x0 (by omega) rfl (by omega), h⟩
theorem order_bd {num den x y : Int} (hd : 1 ≤ den) (hn : 0 ≤ num) (x0 : 0 ≤ x) (xy : x ≤ y) (hm : near (y * num) den ≤ 1000000) : 0 ≤ near (x * num) den ∧ near (x * num) den ≤ 1000000 := by
  have h := near_mono hd (Int.mul_le_mul_of_nonneg_right xy hn)
  exact ⟨near_nonneg (Int.mul_nonneg x0 hn) hd, by omega⟩
theorem order_sum {a b x y : Int} (hb : 1 ≤ b) : near ((x + y) * a) b - near (x * a) b - near (y * a) b ≤ 1 ∧ near (x * a) b + near (y * a) b - near ((x + y) * a) b ≤ 1 := by
  rw [Int.add_mul]; exact near_sum hb
theorem fit_three (ok : Bool) (hg : ok = true) (a b width every extra : Int) :
    (∃ v e, fitG ok a b width every extra = (v, e) ∧ (e = 2 ∨ e = 16)) ∨
    (1 ≤ every ∧ every ≤ 1000 ∧ 0 ≤ extra ∧ extra ≤ 1000 ∧ fitN a b width every extra ≤ 1000000 ∧ fitG ok a b width every extra = (fitN a b width every extra, 0)) := by
  subst hg
  rcases fit_err a b width every extra with h | h | h
  · obtain ⟨-, ⟨h1, h2⟩, ⟨h3, h4⟩, h5, h6⟩ := fit_fst h
    exact .inr ⟨h1, h2, h3, h4, h5, h6⟩
  · exact .inl ⟨_, 2, by rw [← h], .inl rfl⟩
  · exact .inl ⟨_, 16, by rw [← h], .inr rfl⟩
end Go.Proofs.Ytgcdbnhddjajbaa
