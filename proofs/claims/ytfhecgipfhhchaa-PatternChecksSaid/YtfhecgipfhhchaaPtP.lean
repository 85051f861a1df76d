/- Patterns, plain: words, names, the errors of Check. -/
import Derived.Test.YtfhecgipfhhchaaChartQ
namespace Go.Proofs.Ytfhecgipfhhchaa
set_option maxRecDepth 100000
structure Stf where
  nm : List UInt8
  g : Int
def stf0 : Stf := ⟨[], 0⟩
structure Sec where
  nm : List UInt8
  s : Int
  rows : List Ro
def sec0 : Sec := ⟨[], 0, []⟩
/-- a byte of a word -/
def okC (x : UInt8) : Bool := decide (x.toNat = 45 ∨ (97 ≤ x.toNat ∧ x.toNat ≤ 122) ∨ (48 ≤ x.toNat ∧ x.toNat ≤ 57))
/-- a word -/
def wordS (s : List UInt8) : Bool := decide (1 ≤ s.length ∧ s.length ≤ 40) && s.all okC
theorem word_len {s : List UInt8} (h : s.length = 0 ∨ 40 < s.length) : wordS s = false := by
  unfold wordS
  rw [show decide (1 ≤ s.length ∧ s.length ≤ 40) = false from decide_eq_false (by omega)]
  rfl
theorem word_bad {s : List UInt8} {k : Nat} (hk : k < s.length) (h : okC (s.getD k 0) = false) : wordS s = false := by
  unfold wordS
  rw [show s.all okC = false from by
    rw [List.all_eq_false]
    refine ⟨s.getD k 0, ?_, by rw [h]; decide⟩
    rw [List.getD_eq_getElem?_getD, List.getElem?_eq_getElem hk]
    exact List.getElem_mem hk]
  simp
theorem word_yes {s : List UInt8} (h : 1 ≤ s.length ∧ s.length ≤ 40) (ha : ∀ k, k < s.length → okC (s.getD k 0) = true) : wordS s = true := by
  unfold wordS
  rw [decide_eq_true h, List.all_eq_true.2 (fun x hx => by
    obtain ⟨k, hk, e⟩ := List.getElem_of_mem hx
    have h9 := ha k hk
    rw [List.getD_eq_getElem?_getD, List.getElem?_eq_getElem hk] at h9
    rw [← e]
    exact h9)]
  rfl
/-- whether so many names are words -/
def wordsB (g : Nat → List UInt8) (n : Nat) : Bool := (List.range n).all fun i => wordS (g i)
theorem words_succ (g : Nat → List UInt8) (n : Nat) : wordsB g (n + 1) = (wordsB g n && wordS (g n)) := by
  unfold wordsB
  rw [List.range_succ, List.all_append]
  simp
/-- whether a name is among so many -/
def amongB (g : Nat → List UInt8) (i k : Nat) : Bool := (List.range k).any fun j => g i == g j
theorem among_succ (g : Nat → List UInt8) (i k : Nat) : amongB g i (k + 1) = (amongB g i k || (g i == g k)) := by
  unfold amongB
  rw [List.range_succ, List.any_append]
  simp
/-- whether two of so many names are the same -/
def twiceB (g : Nat → List UInt8) (n : Nat) : Bool := (List.range n).any fun i => amongB g i i
theorem twice_succ (g : Nat → List UInt8) (n : Nat) : twiceB g (n + 1) = (twiceB g n || amongB g n n) := by
  unfold twiceB
  rw [List.range_succ, List.any_append]
  simp
/-- the first of them that is the same as the one -/
def idxN (g : Nat → List UInt8) (x : List UInt8) : Nat → Nat → Int
  | 0, _ => -1
  | n + 1, k => if g k = x then (k : Int) else idxN g x n (k + 1)
def gramB (st : List Stf) (n : Nat) : Bool := (List.range n).all fun i => decide (1 ≤ (st.getD i stf0).g ∧ (st.getD i stf0).g ≤ 100000)
theorem gram_succ (st : List Stf) (n : Nat) : gramB st (n + 1) = (gramB st n && decide (1 ≤ (st.getD n stf0).g ∧ (st.getD n stf0).g ≤ 100000)) := by
  unfold gramB
  rw [List.range_succ, List.all_append]
  simp
def stN (st : List Stf) (i : Nat) : List UInt8 := (st.getD i stf0).nm
def seN (se : List Sec) (i : Nat) : List UInt8 := (se.getD i sec0).nm
/-- the first error of the charts from one on -/
def firstE (se : List Sec) : Nat → Nat → Int
  | 0, _ => 0
  | n + 1, k => if chkC (se.getD k sec0).s (se.getD k sec0).rows ≠ 0 then chkC (se.getD k sec0).s (se.getD k sec0).rows else firstE se n (k + 1)
def fineP (nm : List UInt8) (ge : Int) (st : List Stf) (se : List Sec) : Bool :=
  wordS nm && wordsB (stN st) st.length && wordsB (seN se) se.length && decide (se.length ≠ 0) && decide (ge = 0) && gramB st st.length
/-- what Check returns -/
def patE (nm : List UInt8) (ge : Int) (st : List Stf) (se : List Sec) : Int :=
  if 20 < st.length ∨ 20 < se.length then 4
  else if fineP nm ge st se = true then (if twiceB (stN st) st.length = true ∨ twiceB (seN se) se.length = true then 14 else firstE se se.length 0)
  else 8
/-- what Grams returns -/
def gramS (st : List Stf) : Nat → Int
  | 0 => 0
  | n + 1 => gramS st n + (st.getD n stf0).g
theorem gramS_bd {st : List Stf} : ∀ (n : Nat), gramB st n = true → 0 ≤ gramS st n ∧ gramS st n ≤ 100000 * (n : Int) := by
  intro n
  induction n with
  | zero => intro _; simp [gramS]
  | succ n ih =>
    intro h
    rw [gram_succ, Bool.and_eq_true, decide_eq_true_eq] at h
    have := ih h.1
    rw [gramS]
    omega
end Go.Proofs.Ytfhecgipfhhchaa
