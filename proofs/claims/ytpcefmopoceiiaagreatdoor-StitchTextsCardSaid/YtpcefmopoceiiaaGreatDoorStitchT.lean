/- The texts of stitches in plain Lean: what is written, and what is read. -/
import Derived.Test.YtpcefmopoceiiaaGreatDoorStitchP
namespace Go.Proofs.YtpcefmopoceiiaaGreatDoor
set_option maxRecDepth 100000
/-- a digit -/
def dg (n : Nat) : UInt8 := UInt8.ofNat (48 + n % 10)
def isDg (c : UInt8) : Bool := decide (48 ≤ c) && decide (c ≤ 57)
/-- a number in decimal -/
def decF : Nat → Nat → List UInt8
  | 0, _ => []
  | f + 1, n => if n < 10 then [dg n] else decF f (n / 10) ++ [dg (n % 10)]
def decD (n : Nat) : List UInt8 := decF 20 n
/-- the number of some digits -/
def valD (l : List UInt8) : Nat := l.foldl (fun v c => 10 * v + (c.toNat - 48)) 0
/-- the first digits, at most so many -/
def headD : Nat → List UInt8 → Nat
  | 0, _ => 0
  | _ + 1, [] => 0
  | k + 1, c :: l => if isDg c then headD k l + 1 else 0
/-- reads a number of at most four digits, and what is behind it -/
def numR (l : List UInt8) : Int × List UInt8 := if headD 4 l = 0 then (-1, l) else ((valD (l.take (headD 4 l)) : Int), l.drop (headD 4 l))
/-- the text of a stitch -/
def wordT (s : St) : List UInt8 :=
  if s.k = 2 then [121, 111] else if s.k = 9 then [111, 110] ++ decD s.a.toNat
  else (if s.p then [112] else [107]) ++ flt s.k ++ (if 0 < fa1 s.k then decD s.a.toNat else []) ++ (if 0 < fb1 s.k then 47 :: decD s.b.toNat else [])
/-- equal knits one after the other are written once -/
def grp : List St → List (St × Nat)
  | [] => []
  | s :: l => match grp l with
    | (t, n) :: g => if s.k = 1 ∧ s = t then (t, n + 1) :: g else (s, 1) :: (t, n) :: g
    | [] => [(s, 1)]
def wordG (x : St × Nat) : List UInt8 := wordT x.1 ++ if 1 < x.2 then decD x.2 else []
/-- words with a byte between them -/
def joinB (c : UInt8) : List (List UInt8) → List UInt8
  | [] => []
  | [x] => x
  | x :: y :: l => x ++ c :: joinB c (y :: l)
def textL (l : List St) : List UInt8 := joinB 32 ((grp l).map wordG)
/-- a string cut at a byte -/
def spl (c : UInt8) : List UInt8 → List (List UInt8)
  | [] => [[]]
  | x :: l => if x = c then [] :: spl c l else match spl c l with
    | h :: t => (x :: h) :: t
    | [] => [[x]]
theorem spl_ne (c : UInt8) (l : List UInt8) : spl c l ≠ [] := by
  cases l with
  | nil => simp [spl]
  | cons x l =>
    unfold spl
    split
    · simp
    · split <;> simp
theorem spl_word {c : UInt8} {w : List UInt8} (h : c ∉ w) : spl c w = [w] := by
  induction w with
  | nil => rfl
  | cons x w ih =>
    have h1 : ¬ x = c := fun e => h (by simp [e])
    have h2 := ih (fun e => h (by simp [e]))
    unfold spl
    rw [if_neg h1, h2]
theorem spl_cons {c : UInt8} {w l : List UInt8} (h : c ∉ w) : spl c (w ++ c :: l) = w :: spl c l := by
  induction w with
  | nil => simp [spl]
  | cons x w ih =>
    have h1 : ¬ x = c := fun e => h (by simp [e])
    have h2 := ih (fun e => h (by simp [e]))
    rw [List.cons_append, spl, if_neg h1, h2]
theorem spl_join {c : UInt8} : ∀ {ws : List (List UInt8)}, ws ≠ [] → (∀ w ∈ ws, c ∉ w) → spl c (joinB c ws) = ws := by
  intro ws
  induction ws with
  | nil => intro h; exact absurd rfl h
  | cons x ws ih =>
    intro _ h
    cases ws with
    | nil => exact spl_word (h x (by simp))
    | cons y ws =>
      rw [joinB, spl_cons (h x (by simp)), ih (by simp) (fun w hw => h w (by simp at hw ⊢; exact .inr hw))]
/-- the kind of a letter -/
def kindL (c : UInt8) : Int := if c = 102 then 3 else if c = 108 then 4 else if c = 109 then 5 else if c = 120 then 6 else if c = 121 then 7 else if c = 115 then 8 else if c = 111 then 10 else if c = 63 then 0 else 3
def trimS (l : List UInt8) : List UInt8 := match l with
  | 47 :: t => t
  | l => l
def readK (p : Bool) (c : UInt8) (rest : List UInt8) : St :=
  let k := kindL c
  let a := if 0 < fa1 k then numR rest else (0, rest)
  ⟨k, p, a.1, if 0 < fb1 k then (numR (trimS a.2)).1 else 0⟩
/-- reads a word: the stitch, and how often it stands -/
def readW : List UInt8 → St × Int
  | [] => (st0, 1)
  | c :: rest =>
    if c = 121 ∧ rest = [111] then (⟨2, false, 0, 0⟩, 1)
    else if c = 111 ∧ rest.head? = some 110 then (⟨9, false, (numR rest.tail).1, 0⟩, 1)
    else if ¬ (c = 107 ∨ c = 112) then (st0, 1)
    else match rest with
      | [] => (⟨1, decide (c = 112), 0, 0⟩, 1)
      | d :: r => if 0 ≤ (numR (d :: r)).1 then (⟨1, decide (c = 112), 0, 0⟩, min (max (numR (d :: r)).1 1) 201) else (readK (decide (c = 112)) d r, 1)
/-- the valid stitches, all of them -/
def rng (lo hi : Nat) : List Int := (List.range (hi + 1 - lo)).map (fun i => ((lo + i : Nat) : Int))
def allSt : List St :=
  [false, true].flatMap (fun p => [⟨1, p, 0, 0⟩, ⟨8, p, 0, 0⟩] ++ (rng 2 4).flatMap (fun a => [⟨3, p, a, 0⟩, ⟨4, p, a, 0⟩, ⟨5, p, a, 0⟩])
    ++ (rng 1 6).flatMap (fun a => (rng 1 6).flatMap (fun b => [⟨6, p, a, b⟩, ⟨7, p, a, b⟩])) ++ (rng 1 200).map (fun a => ⟨10, p, a, 0⟩))
  ++ ⟨2, false, 0, 0⟩ :: (rng 1 200).map (fun a => ⟨9, false, a, 0⟩)
theorem mem_rng {lo hi : Nat} {x : Int} (h1 : (lo : Int) ≤ x) (h2 : x ≤ hi) : x ∈ rng lo hi := by
  rw [rng, List.mem_map]
  exact ⟨x.toNat - lo, List.mem_range.2 (by omega), by omega⟩
theorem mem_allSt {s : St} (h : okSt s = true) : s ∈ allSt := by
  obtain ⟨hk, ha, hb, hp⟩ := ok_e h
  have ha := inR_e ha
  have hb := inR_e hb
  obtain ⟨k, p, a, b⟩ := s
  simp only at hk ha hb hp
  have hpm : p ∈ [false, true] := by cases p <;> simp
  unfold allSt
  rw [List.mem_append]
  rcases kind_cases hk with e | e | e | e | e | e | e | e | e | e <;> subst e <;> simp [fa0, fa1, fb0, fb1, fsd] at ha hb hp
  · left
    obtain rfl : a = 0 := by omega
    obtain rfl : b = 0 := by omega
    exact List.mem_flatMap.2 ⟨p, hpm, by simp⟩
  · right
    obtain rfl : a = 0 := by omega
    obtain rfl : b = 0 := by omega
    subst hp
    simp
  · left
    obtain rfl : b = 0 := by omega
    exact List.mem_flatMap.2 ⟨p, hpm, List.mem_append_left _ (List.mem_append_left _ (List.mem_append_right _ (List.mem_flatMap.2 ⟨a, mem_rng (by omega) (by omega), by simp⟩)))⟩
  · left
    obtain rfl : b = 0 := by omega
    exact List.mem_flatMap.2 ⟨p, hpm, List.mem_append_left _ (List.mem_append_left _ (List.mem_append_right _ (List.mem_flatMap.2 ⟨a, mem_rng (by omega) (by omega), by simp⟩)))⟩
  · left
    obtain rfl : b = 0 := by omega
    exact List.mem_flatMap.2 ⟨p, hpm, List.mem_append_left _ (List.mem_append_left _ (List.mem_append_right _ (List.mem_flatMap.2 ⟨a, mem_rng (by omega) (by omega), by simp⟩)))⟩
  · left
    exact List.mem_flatMap.2 ⟨p, hpm, List.mem_append_left _ (List.mem_append_right _ (List.mem_flatMap.2 ⟨a, mem_rng (by omega) (by omega), List.mem_flatMap.2 ⟨b, mem_rng (by omega) (by omega), by simp⟩⟩))⟩
  · left
    exact List.mem_flatMap.2 ⟨p, hpm, List.mem_append_left _ (List.mem_append_right _ (List.mem_flatMap.2 ⟨a, mem_rng (by omega) (by omega), List.mem_flatMap.2 ⟨b, mem_rng (by omega) (by omega), by simp⟩⟩))⟩
  · left
    obtain rfl : a = 0 := by omega
    obtain rfl : b = 0 := by omega
    exact List.mem_flatMap.2 ⟨p, hpm, by simp⟩
  · right
    obtain rfl : b = 0 := by omega
    subst hp
    exact List.mem_cons_of_mem _ (List.mem_map.2 ⟨a, mem_rng (by omega) (by omega), rfl⟩)
  · left
    obtain rfl : b = 0 := by omega
    exact List.mem_flatMap.2 ⟨p, hpm, List.mem_append_right _ (List.mem_map.2 ⟨a, mem_rng (by omega) (by omega), rfl⟩)⟩
/-- what is asked of each valid word -/
def wordOk (s : St) : Bool := decide (readW (wordT s) = (s, 1)) && !(wordT s).contains 32 && !(wordT s).contains 10 && decide ((wordT s).length ≤ 5) && decide (0 < (wordT s).length)
theorem words_ok : allSt.all wordOk = true := by decide +kernel
def runOk (n : Nat) : Bool := [false, true].all (fun p => decide (readW (wordG (⟨1, p, 0, 0⟩, n + 2)) = (⟨1, p, 0, 0⟩, ((n + 2 : Nat) : Int))) && !(wordG (⟨1, p, 0, 0⟩, n + 2)).contains 32 && !(wordG (⟨1, p, 0, 0⟩, n + 2)).contains 10 && decide ((wordG (⟨1, p, 0, 0⟩, n + 2)).length ≤ 5))
theorem runs_ok : (List.range 199).all runOk = true := by decide +kernel
end Go.Proofs.YtpcefmopoceiiaaGreatDoor
