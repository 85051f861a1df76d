/- The library's words on strings and numbers, read in the words of the stitches' texts. -/
import Derived.Test.YtpcefmopoceiiaaGreatDoorStitchT
import Derived.Lib.Split
import Derived.Lib.Join
import Derived.Lib.ItoaNum
import Derived.Lib.Atoi
import Derived.Lib.AtoiAll
namespace Go.Proofs.YtpcefmopoceiiaaGreatDoor
set_option maxRecDepth 100000
open Go
theorem dg_lib {n : Nat} (h : n < 10) : dg n = UInt8.ofNat (48 + n) := by rw [dg, Nat.mod_eq_of_lt h]
theorem decF_lib : ∀ (f n : Nat), n < 10 ^ (f + 1) → decF (f + 1) n = Lib.decDigits n := by
  intro f
  induction f with
  | zero =>
    intro n h
    have h : n < 10 := by simpa using h
    rw [Lib.decDigits, dif_pos h, decF, if_pos h, dg_lib h]
  | succ f ih =>
    intro n h
    rw [Lib.decDigits, decF]
    by_cases hn : n < 10
    · rw [dif_pos hn, if_pos hn, dg_lib hn]
    · rw [dif_neg hn, if_neg hn, ih (n / 10) (by rw [Nat.pow_succ] at h; omega), dg_lib (Nat.mod_lt _ (by omega))]
theorem decF_len : ∀ (f n : Nat), (decF f n).length ≤ f := by
  intro f
  induction f with
  | zero => intro n; simp [decF]
  | succ f ih =>
    intro n
    rw [decF]
    split
    · simp
    · have := ih (n / 10)
      simp only [List.length_append, List.length_cons, List.length_nil]
      omega
theorem dec_len (n : Nat) : (decD n).length ≤ 20 := decF_len 20 n
theorem dec_lib {n : Nat} (h : n < 10 ^ 20) : Lib.decDigits n = decD n := (decF_lib 19 n h).symm
theorem itoa_lib {n : Int} (h0 : 0 ≤ n) (h1 : n ≤ 1000000000000) : Lib.itoa n = decD n.toNat := by
  rw [Lib.itoa, if_neg (by omega), dec_lib (by omega)]
theorem idx_cons (c x : UInt8) (l : List UInt8) : Lib.index (x :: l) [c] = if c = x then 0 else if Lib.index l [c] == -1 then -1 else Lib.index l [c] + 1 := by
  rw [Lib.index]
  by_cases h : c = x <;> simp [h, List.isPrefixOf]
theorem idx_nil (c : UInt8) : Lib.index [] [c] = -1 := rfl
theorem splK (c : UInt8) : ∀ (m : Nat) (l : List UInt8), l.length ≤ m → Lib.splitK [c] 0 (Lib.count l [c]) l = spl c l := by
  intro m
  induction m with
  | zero =>
    intro l h
    obtain rfl : l = [] := List.eq_nil_of_length_eq_zero (by omega)
    rw [Lib.count_miss (idx_nil c)]
    rfl
  | succ m ih =>
    intro l h
    rcases hi : l with _ | ⟨x, t⟩
    · rw [Lib.count_miss (idx_nil c)]; rfl
    · subst hi
      by_cases hx : x = c
      · subst hx
        have h0 : Lib.index (x :: t) [x] = (0 : Nat) := by rw [idx_cons]; simp
        rw [Lib.count_hit (by simp) h0, Nat.add_comm 1, Lib.splitK, h0]
        have h2 := ih t (by simpa using h)
        have h3 : ∀ a : List UInt8, (List.drop ([x] : List UInt8).length (x :: a)) = a := fun _ => rfl
        simp [h2, spl]
      · have hcx : ¬ c = x := fun e => hx e.symm
        rw [spl, if_neg hx]
        rcases Lib.index_spec t [c] with ⟨hm, _⟩ | ⟨i, hm, _⟩
        · have h1 : Lib.index (x :: t) [c] = -1 := by rw [idx_cons, if_neg hcx, hm]; rfl
          have ht : t.length ≤ m := by simpa using h
          have h2 := ih t ht
          rw [Lib.count_miss hm] at h2
          rw [Lib.count_miss h1, ← h2]
          rfl
        · have h1 : Lib.index (x :: t) [c] = ((i + 1 : Nat) : Int) := by
            rw [idx_cons, if_neg hcx, hm, if_neg (by first | (simp; done) | (simp; omega))]; rfl
          have ht : t.length ≤ m := by simpa using h
          have h2 := ih t ht
          rw [Lib.count_hit (by simp) hm, Nat.add_comm 1, Lib.splitK, hm, if_neg (by first | (simp; done) | (simp; omega))] at h2
          rw [Lib.count_hit (by simp) h1, Nat.add_comm 1, Lib.splitK, h1, if_neg (by first | (simp; done) | (simp; omega)), ← h2]
          simp only [Int.toNat_natCast, Nat.add_zero, List.take_succ_cons, List.length_cons, List.length_nil, List.drop_succ_cons, Nat.zero_add]
theorem spl_len_cons (c x : UInt8) (t : List UInt8) : (spl c (x :: t)).length = if x = c then (spl c t).length + 1 else (spl c t).length := by
  rw [spl]
  split
  · simp
  · have := spl_ne c t
    rcases h : spl c t with _ | ⟨y, r⟩
    · exact absurd h this
    · simp
theorem spl_count (c : UInt8) : ∀ (m : Nat) (l : List UInt8), l.length ≤ m → (spl c l).length = Lib.count l [c] + 1 := by
  intro m
  induction m with
  | zero =>
    intro l h
    obtain rfl : l = [] := List.eq_nil_of_length_eq_zero (by omega)
    rw [Lib.count_miss (idx_nil c)]
    rfl
  | succ m ih =>
    intro l h
    rcases hi : l with _ | ⟨x, t⟩
    · rw [Lib.count_miss (idx_nil c)]; rfl
    · subst hi
      have h2 := ih t (by simpa using h)
      rw [spl_len_cons]
      by_cases hx : x = c
      · subst hx
        have h0 : Lib.index (x :: t) [x] = (0 : Nat) := by rw [idx_cons]; simp
        have h3 := Lib.count_hit (by simp) h0
        rw [if_pos rfl, h2, h3]
        simp
        omega
      · have hcx : ¬ c = x := fun e => hx e.symm
        rw [if_neg hx, h2]
        rcases Lib.index_spec t [c] with ⟨hm, _⟩ | ⟨i, hm, _⟩
        · have h1 : Lib.index (x :: t) [c] = -1 := by rw [idx_cons, if_neg hcx, hm]; rfl
          rw [Lib.count_miss hm, Lib.count_miss h1]
        · have h1 : Lib.index (x :: t) [c] = ((i + 1 : Nat) : Int) := by
            rw [idx_cons, if_neg hcx, hm, if_neg (by first | (simp; done) | (simp; omega))]; rfl
          rw [Lib.count_hit (by simp) hm, Lib.count_hit (by simp) h1]
          simp
theorem split_spl (c : UInt8) (s : ByteArray) : (Lib.splitB ⟨#[c]⟩ 0 (Lib.countB s ⟨#[c]⟩) s).map (·.data.toList) = spl c s.data.toList := by
  rw [Lib.splitB_data]
  exact splK c _ _ (Nat.le_refl _)
theorem join_lib (c : UInt8) : ∀ (ws : List (List UInt8)), Lib.join ws [c] = joinB c ws := by
  intro ws
  induction ws with
  | nil => rfl
  | cons x ws ih =>
    cases ws with
    | nil => simp [Lib.join_one, joinB]
    | cons y ws =>
      rw [Lib.join_cons]
      rw [Lib.join_cons] at ih
      rw [joinB, ← ih]
      simp [Lib.joinTail]
theorem dg_val {c : UInt8} (h : isDg c = true) : 48 ≤ c.toNat ∧ c.toNat ≤ 57 := by
  simp only [isDg, Bool.and_eq_true, decide_eq_true_eq, UInt8.le_iff_toNat_le] at h
  exact h
theorem from_digits : ∀ (l : List UInt8) (acc : Nat), l.all isDg = true → Lib.decFrom acc l = some (l.foldl (fun v c => 10 * v + (c.toNat - 48)) acc) := by
  intro l
  induction l with
  | nil => intro acc _; rfl
  | cons c r ih =>
    intro acc h
    have h1 : isDg c = true ∧ r.all isDg = true := by simpa using h
    rw [Lib.decFrom, Lib.digitVal, if_pos (dg_val h1.1)]
    simp only
    rw [ih _ h1.2, List.foldl_cons, Nat.mul_comm acc 10]
/-- digits, at least one: Atoi gives their number -/
theorem atoi_digits {l : List UInt8} (h : l.all isDg = true) (hl : l ≠ []) : Lib.atoi l = some (valD l : Int) := by
  rcases l with _ | ⟨c, r⟩
  · exact absurd rfl hl
  · have h1 : isDg c = true ∧ r.all isDg = true := by simpa using h
    have h2 := dg_val h1.1
    have h3 : (c == 45) = false := by
      rw [beq_eq_false_iff_ne]
      rintro rfl
      simp at h2
    have h4 : (c == 43) = false := by
      rw [beq_eq_false_iff_ne]
      rintro rfl
      simp at h2
    rw [Lib.atoi, h3, h4]
    have h5 : Lib.decNat (c :: r) = some (valD (c :: r)) := by
      rw [Lib.decNat, List.isEmpty_cons, if_neg (by simp), from_digits _ 0 h]
      rfl
    rw [h5]
    rfl
theorem atoi_nil : Lib.atoi [] = none := rfl
theorem headD_le : ∀ (k : Nat) (l : List UInt8), headD k l ≤ k ∧ headD k l ≤ l.length ∧ (l.take (headD k l)).all isDg = true := by
  intro k
  induction k with
  | zero => intro l; simp [headD]
  | succ k ih =>
    intro l
    cases l with
    | nil => simp [headD]
    | cons c r =>
      obtain ⟨h1, h2, h3⟩ := ih r
      rw [headD]
      split
      · rename_i hc
        refine ⟨by omega, by simp only [List.length_cons]; omega, ?_⟩
        rw [List.take_succ_cons, List.all_cons, hc, h3]; rfl
      · simp
/-- the step of the loop that counts the digits -/
theorem headD_step {k : Nat} : ∀ {l : List UInt8} {n : Nat}, n ≤ headD k l → (n < headD k l ↔ n < k ∧ n < l.length ∧ isDg (l.getD n 0) = true) := by
  induction k with
  | zero => intro l n h; simp [headD] at h ⊢
  | succ k ih =>
    intro l n h
    cases l with
    | nil => simp [headD] at h ⊢
    | cons c r =>
      rw [headD] at h ⊢
      by_cases hc : isDg c = true
      · rw [if_pos hc] at h ⊢
        cases n with
        | zero => simp [hc]
        | succ n =>
          have := ih (l := r) (n := n) (by omega)
          simp only [List.getD_cons_succ, List.length_cons, Nat.add_lt_add_iff_right]
          exact this
      · rw [if_neg hc] at h ⊢
        obtain rfl : n = 0 := by omega
        simp [hc]
theorem valD_bd : ∀ (l : List UInt8) (acc : Nat), l.all isDg = true → l.foldl (fun v c => 10 * v + (c.toNat - 48)) acc < (acc + 1) * 10 ^ l.length := by
  intro l
  induction l with
  | nil => intro acc _; simp
  | cons c r ih =>
    intro acc h
    have h1 : isDg c = true ∧ r.all isDg = true := by simpa using h
    have h2 := dg_val h1.1
    have h3 := ih (10 * acc + (c.toNat - 48)) h1.2
    rw [List.foldl_cons, List.length_cons, Nat.pow_succ]
    refine Nat.lt_of_lt_of_le h3 ?_
    rw [Nat.mul_comm (10 ^ r.length) 10, ← Nat.mul_assoc]
    exact Nat.mul_le_mul_right _ (by omega)
theorem valD_small {l : List UInt8} (h : l.all isDg = true) (hl : l.length ≤ 4) : valD l < 10000 := by
  have h1 := valD_bd l 0 h
  have h2 : 10 ^ l.length ≤ 10 ^ 4 := Nat.pow_le_pow_right (by omega) hl
  unfold valD
  omega
end Go.Proofs.YtpcefmopoceiiaaGreatDoor
