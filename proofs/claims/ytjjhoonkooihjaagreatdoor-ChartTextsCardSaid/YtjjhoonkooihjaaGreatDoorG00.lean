/- Stitches in plain Lean: what is valid, what they use and make. -/
import Derived.Lib.AtoiAll
import Derived.WalkKit
import Derived.IntWalk
import Derived.WalkSpells
import Derived.Lib.Hide
import Derived.Deep.Draws
namespace Go.Proofs.YtjjhoonkooihjaaGreatDoor
set_option maxRecDepth 100000
/-- whether a number is in a range -/
def inR (n lo hi : Int) : Bool := decide (lo ≤ n) && decide (n ≤ hi)
theorem inR_t {n lo hi : Int} (h : lo ≤ n) (k : n ≤ hi) : inR n lo hi = true := by simp [inR, h, k]
theorem inR_f {n lo hi : Int} (h : n < lo ∨ hi < n) : inR n lo hi = false := by simp [inR]; omega
theorem inR_e {n lo hi : Int} (h : inR n lo hi = true) : lo ≤ n ∧ n ≤ hi := by simpa [inR] using h
theorem inR_n {n lo hi : Int} (h : inR n lo hi = false) : n < lo ∨ hi < n := by simp [inR] at h; omega
/-- a stitch -/
structure St where
  k : Int
  p : Bool
  a : Int
  b : Int
theorem St.ext_ {x y : St} (h1 : x.k = y.k) (h2 : x.p = y.p) (h3 : x.a = y.a) (h4 : x.b = y.b) : x = y := by
  cases x; cases y; simp only at h1 h2 h3 h4; subst h1; subst h2; subst h3; subst h4; rfl
instance : DecidableEq St := fun x y =>
  if h : x.k = y.k ∧ x.p = y.p ∧ x.a = y.a ∧ x.b = y.b then isTrue (St.ext_ h.1 h.2.1 h.2.2.1 h.2.2.2)
  else isFalse (fun e => h (by subst e; exact ⟨rfl, rfl, rfl, rfl⟩))
def st0 : St := ⟨0, false, 0, 0⟩
/-- what is known of a kind -/
def kindB (k : Int) : Bool := inR k 1 10
def fa0 (k : Int) : Int := if k = 3 ∨ k = 4 ∨ k = 5 then 2 else if k = 6 ∨ k = 7 ∨ k = 9 ∨ k = 10 then 1 else 0
def fa1 (k : Int) : Int := if k = 3 ∨ k = 4 ∨ k = 5 then 4 else if k = 6 ∨ k = 7 then 6 else if k = 9 ∨ k = 10 then 200 else 0
def fb0 (k : Int) : Int := if k = 6 ∨ k = 7 then 1 else 0
def fb1 (k : Int) : Int := if k = 6 ∨ k = 7 then 6 else 0
def fsd (k : Int) : Bool := decide (k = 1 ∨ (3 ≤ k ∧ k ≤ 8) ∨ k = 10)
def fus (k : Int) : Int := if k = 1 ∨ k = 5 ∨ k = 8 then 1 else if k = 3 ∨ k = 4 ∨ k = 10 then 2 else if k = 6 ∨ k = 7 then 3 else 0
def fmd (k : Int) : Int := if k = 1 ∨ k = 2 ∨ k = 3 ∨ k = 4 ∨ k = 8 then 1 else if k = 5 ∨ k = 9 then 2 else if k = 6 ∨ k = 7 then 3 else 0
def flt (k : Int) : List UInt8 := if k = 3 then [102] else if k = 4 then [108] else if k = 5 then [109] else if k = 6 then [120] else if k = 7 then [121] else if k = 8 then [115] else if k = 10 then [111] else []
/-- whether a stitch is valid -/
def okSt (s : St) : Bool := kindB s.k && inR s.a (fa0 s.k) (fa1 s.k) && inR s.b (fb0 s.k) (fb1 s.k) && !(s.p && !fsd s.k)
def okE (s : St) : Int := if okSt s then 0 else 8
/-- so many loops -/
def lpV (a b how : Int) : Int := if how = 0 then 0 else if how = 1 then 1 else if how = 2 then a else a + b
def usV (s : St) : Int := lpV s.a s.b (fus s.k)
def mkV (s : St) : Int := lpV s.a s.b (fmd s.k)
def usL (l : List St) : Int := (l.map usV).sum
def mkL (l : List St) : Int := (l.map mkV).sum
def allB (l : List St) : Bool := l.all okSt
def allE (l : List St) : Int := if 200 < l.length then 4 else if allB l then (if 200 < max (usL l) (mkL l) then 4 else 0) else 8
def usG (l : List St) : Int := if allE l = 0 then usL l else 0
def mkG (l : List St) : Int := if allE l = 0 then mkL l else 0
/-- whether a list is greater than the statements consider -/
def greatN (n : Nat) : Bool := (decide (60 < n) && decide (n ≤ 200)) || decide (300 < n)
theorem kind_cases {k : Int} (h : kindB k = true) : k = 1 ∨ k = 2 ∨ k = 3 ∨ k = 4 ∨ k = 5 ∨ k = 6 ∨ k = 7 ∨ k = 8 ∨ k = 9 ∨ k = 10 := by
  have := inR_e h; omega
theorem ok_e {s : St} (h : okSt s = true) : kindB s.k = true ∧ inR s.a (fa0 s.k) (fa1 s.k) = true ∧ inR s.b (fb0 s.k) (fb1 s.k) = true ∧ (s.p && !fsd s.k) = false := by
  simp only [okSt, Bool.and_eq_true, Bool.not_eq_true'] at h
  exact ⟨h.1.1.1, h.1.1.2, h.1.2, h.2⟩
theorem ok_bd {s : St} (h : okSt s = true) : (0 ≤ s.a ∧ s.a ≤ 200 ∧ 0 ≤ s.b ∧ s.b ≤ 6) ∧ (0 ≤ usV s ∧ usV s ≤ 200) ∧ (0 ≤ mkV s ∧ mkV s ≤ 200) ∧ (0 ≤ fus s.k ∧ fus s.k ≤ 3) ∧ (0 ≤ fmd s.k ∧ fmd s.k ≤ 3) := by
  obtain ⟨hk, ha, hb, _⟩ := ok_e h
  have ha := inR_e ha
  have hb := inR_e hb
  unfold usV mkV
  rcases kind_cases hk with e | e | e | e | e | e | e | e | e | e <;> rw [e] at ha hb ⊢ <;> simp [fa0, fa1, fb0, fb1, fus, fmd, lpV] at ha hb ⊢ <;> omega
theorem ok_kind {s : St} (h : okSt s = true) : kindB s.k = true := (ok_e h).1
theorem getSt {l : List St} {k : Nat} (h : k < l.length) : l[k]? = some (l.getD k st0) := by
  rw [List.getD_eq_getElem?_getD, List.getElem?_eq_getElem h]; rfl
theorem takeSt {l : List St} {k : Nat} (h : k < l.length) : l.take (k + 1) = l.take k ++ [l.getD k st0] := by
  rw [List.take_succ_eq_append_getElem h, List.getD_eq_getElem?_getD, List.getElem?_eq_getElem h]; rfl
theorem usL_succ {l : List St} {k : Nat} (h : k < l.length) : usL (l.take (k + 1)) = usL (l.take k) + usV (l.getD k st0) := by
  rw [takeSt h]; simp [usL]
theorem mkL_succ {l : List St} {k : Nat} (h : k < l.length) : mkL (l.take (k + 1)) = mkL (l.take k) + mkV (l.getD k st0) := by
  rw [takeSt h]; simp [mkL]
theorem allB_at {l : List St} (h : allB l = true) {k : Nat} (hk : k < l.length) : okSt (l.getD k st0) = true := by
  rw [allB, List.all_eq_true] at h
  exact h _ (by rw [List.getD_eq_getElem?_getD, List.getElem?_eq_getElem hk]; exact List.getElem_mem _)
theorem allB_bad {l : List St} {n k : Nat} (hl : l.length = n) (hk : k < n) (h : okSt (l.getD k st0) = false) : allB l = false := by
  cases e : allB l
  · rfl
  · have := allB_at e (k := k) (by omega)
    rw [h] at this; cases this
theorem allB_ok {l : List St} {n : Nat} (hl : l.length = n) (h : ∀ j, j < n → okSt (l.getD j st0) = true) : allB l = true := by
  rw [allB, List.all_eq_true]
  intro x hx
  obtain ⟨j, hj, e⟩ := List.getElem_of_mem hx
  have := h j (by omega)
  rwa [List.getD_eq_getElem?_getD, List.getElem?_eq_getElem hj, Option.getD_some, e] at this
theorem sums_bd {l : List St} (h : allB l = true) : ∀ k, k ≤ l.length → (0 ≤ usL (l.take k) ∧ usL (l.take k) ≤ 200 * (k : Int)) ∧ (0 ≤ mkL (l.take k) ∧ mkL (l.take k) ≤ 200 * (k : Int)) := by
  intro k
  induction k with
  | zero => intro _; simp [usL, mkL]
  | succ k ih =>
    intro hk
    have h1 := ih (by omega)
    have h2 := ok_bd (allB_at h (k := k) (by omega))
    rw [usL_succ (by omega), mkL_succ (by omega)]
    omega
theorem allE_many {l : List St} (h : 200 < l.length) : allE l = 4 := by rw [allE, if_pos h]
theorem allE_bad {l : List St} (h : ¬ 200 < l.length) (h2 : allB l = false) : allE l = 8 := by rw [allE, if_neg h, h2]; rfl
theorem allE_much {l : List St} (h : ¬ 200 < l.length) (h2 : allB l = true) (h3 : 200 < max (usL l) (mkL l)) : allE l = 4 := by rw [allE, if_neg h, if_pos h2, if_pos h3]
theorem allE_ok {l : List St} (h : ¬ 200 < l.length) (h2 : allB l = true) (h3 : ¬ 200 < max (usL l) (mkL l)) : allE l = 0 := by rw [allE, if_neg h, if_pos h2, if_neg h3]
theorem allE_e {l : List St} (h : allE l = 0) : l.length ≤ 200 ∧ allB l = true ∧ usL l ≤ 200 ∧ mkL l ≤ 200 := by
  unfold allE at h
  split at h
  · omega
  · split at h
    · split at h
      · omega
      · rename_i h1 h2 h3
        exact ⟨by omega, h2, by omega, by omega⟩
    · omega
theorem st_eq {xs ys : List St} {n : Nat} (hx : xs.length = n) (hy : ys.length = n) (h : ∀ j, j < n → xs.getD j st0 = ys.getD j st0) : xs = ys := by
  apply List.ext_getElem (by omega)
  intro i h1 h2
  have := h i (by omega)
  rwa [List.getD_eq_getElem?_getD, List.getD_eq_getElem?_getD, List.getElem?_eq_getElem h1, List.getElem?_eq_getElem h2] at this
/-- the kinds of all are bytes -/
def Bytes (l : List St) : Prop := ∀ j, j < l.length → 0 ≤ (l.getD j st0).k ∧ (l.getD j st0).k ≤ 255
theorem bytes_of {l : List St} (h : ∀ s ∈ l, 0 ≤ s.k ∧ s.k ≤ 255) : Bytes l := fun j hj => h _ (by rw [List.getD_eq_getElem?_getD, List.getElem?_eq_getElem hj]; exact List.getElem_mem _)
end Go.Proofs.YtjjhoonkooihjaaGreatDoor
/- Charts in plain Lean. -/
namespace Go.Proofs.YtjjhoonkooihjaaGreatDoor
set_option maxRecDepth 100000
/-- a row: whether its back is seen, and its cells -/
structure Ro where
  back : Bool
  cells : List St
theorem Ro.ext_ {x y : Ro} (h1 : x.back = y.back) (h2 : x.cells = y.cells) : x = y := by
  cases x; cases y; simp only at h1 h2; subst h1; subst h2; rfl
instance : DecidableEq Ro := fun x y =>
  if h : x.back = y.back ∧ x.cells = y.cells then isTrue (Ro.ext_ h.1 h.2) else isFalse (fun e => h (by subst e; exact ⟨rfl, rfl⟩))
def ro0 : Ro := ⟨false, []⟩
/-- the error of rows that begin with a number of loops -/
def chkGo : Int → List Ro → Int
  | _, [] => 0
  | n, r :: rs => if allE r.cells ≠ 0 then allE r.cells else if usL r.cells ≠ n then 26 else chkGo (mkL r.cells) rs
/-- the error of a chart -/
def chkC (s : Int) (l : List Ro) : Int := if 100 < l.length then 4 else if s < 0 ∨ 200 < s then 8 else chkGo s l
/-- the counts of a valid chart -/
def cntC (s : Int) (l : List Ro) : List Int := s :: l.map (fun r => mkL r.cells)
/-- whether a chart is greater than the statements consider -/
def greatC (l : List Ro) : Bool := (l.take 150).any (fun r => greatN r.cells.length) || (decide (12 < l.length) && decide (l.length ≤ 100)) || decide (150 < l.length)
theorem getRo {l : List Ro} {k : Nat} (h : k < l.length) : l[k]? = some (l.getD k ro0) := by
  rw [List.getD_eq_getElem?_getD, List.getElem?_eq_getElem h]; rfl
theorem takeRo {l : List Ro} {k : Nat} (h : k < l.length) : l.take (k + 1) = l.take k ++ [l.getD k ro0] := by
  rw [List.take_succ_eq_append_getElem h, List.getD_eq_getElem?_getD, List.getElem?_eq_getElem h]; rfl
theorem dropRo {l : List Ro} {k : Nat} (h : k < l.length) : l.drop k = l.getD k ro0 :: l.drop (k + 1) := by
  rw [List.drop_eq_getElem_cons h, List.getD_eq_getElem?_getD, List.getElem?_eq_getElem h]; rfl
theorem great_parts {l : List Ro} (h : greatC l = false) : (l.length ≤ 12 ∨ (100 < l.length ∧ l.length ≤ 150)) ∧ ∀ k, k < l.length → greatN (l.getD k ro0).cells.length = false := by
  simp only [greatC, Bool.or_eq_false_iff, Bool.and_eq_false_iff, decide_eq_false_iff_not] at h
  obtain ⟨⟨h1, h2⟩, h3⟩ := h
  have hl : l.length ≤ 12 ∨ (100 < l.length ∧ l.length ≤ 150) := by omega
  refine ⟨hl, fun k hk => ?_⟩
  rw [List.take_of_length_le (by omega)] at h1
  have := List.any_eq_false.1 h1 (l.getD k ro0) (by rw [List.getD_eq_getElem?_getD, List.getElem?_eq_getElem hk]; exact List.getElem_mem _)
  simpa using this
theorem great_len {n : Nat} (h : greatN n = false) : n ≤ 60 ∨ (200 < n ∧ n ≤ 300) := by
  simp [greatN] at h; omega
theorem chkGo_vals {l : List Ro} : ∀ {n : Int}, chkGo n l = 0 ∨ chkGo n l = 4 ∨ chkGo n l = 8 ∨ chkGo n l = 26 := by
  induction l with
  | nil => intro n; exact .inl rfl
  | cons r rs ih =>
    intro n
    rw [chkGo]
    split
    · rename_i h
      unfold allE at h ⊢
      split
      · exact .inr (.inl rfl)
      · split
        · split
          · exact .inr (.inl rfl)
          · exact .inl rfl
        · exact .inr (.inr (.inl rfl))
    · split
      · exact .inr (.inr (.inr rfl))
      · exact ih
theorem chkC_vals (s : Int) (l : List Ro) : chkC s l = 0 ∨ chkC s l = 4 ∨ chkC s l = 8 ∨ chkC s l = 26 := by
  unfold chkC
  split
  · exact .inr (.inl rfl)
  · split
    · exact .inr (.inr (.inl rfl))
    · exact chkGo_vals
/-- what a valid chart is -/
theorem chkGo_ok {l : List Ro} : ∀ {n : Int}, chkGo n l = 0 → ∀ k, k < l.length → allE (l.getD k ro0).cells = 0 ∧ usL (l.getD k ro0).cells = (cntC n l).getD k 0 := by
  induction l with
  | nil => intro n _ k hk; simp at hk
  | cons r rs ih =>
    intro n h k hk
    rw [chkGo] at h
    split at h
    · exact absurd h (by assumption)
    · split at h
      · omega
      · rename_i h1 h2
        cases k with
        | zero =>
          simp only [List.getD_cons_zero, cntC]
          exact ⟨by omega, by omega⟩
        | succ k =>
          have := ih h k (by simpa using hk)
          simp only [List.getD_cons_succ, cntC, List.map_cons] at this ⊢
          exact this
theorem chkC_ok {s : Int} {l : List Ro} (h : chkC s l = 0) : l.length ≤ 100 ∧ 0 ≤ s ∧ s ≤ 200 ∧ chkGo s l = 0 := by
  unfold chkC at h
  split at h
  · omega
  · split at h
    · omega
    · exact ⟨by omega, by omega, by omega, h⟩
theorem cntC_len (s : Int) (l : List Ro) : (cntC s l).length = l.length + 1 := by simp [cntC]
/-- the counts one after the other -/
theorem cnt_succ {s : Int} {l : List Ro} {k : Nat} (hk : k < l.length) : (cntC s l).getD (k + 1) 0 = mkL (l.getD k ro0).cells := by
  rw [cntC, List.getD_cons_succ, List.getD_eq_getElem?_getD, List.getElem?_map, List.getElem?_eq_getElem hk, List.getD_eq_getElem?_getD, List.getElem?_eq_getElem hk]
  rfl
/-- each count of a valid chart is from 0 to 200 -/
theorem cnt_bd {s : Int} {l : List Ro} (h : chkC s l = 0) : ∀ k, k ≤ l.length → 0 ≤ (cntC s l).getD k 0 ∧ (cntC s l).getD k 0 ≤ 200 := by
  obtain ⟨_, h1, h2, h3⟩ := chkC_ok h
  intro k hk
  cases k with
  | zero => simp only [cntC, List.getD_cons_zero]; omega
  | succ k =>
    have h4 := (chkGo_ok h3 k (by omega)).1
    obtain ⟨g1, g2, g3, g4⟩ := allE_e h4
    have h5 := sums_bd g2 _ (Nat.le_refl _)
    rw [List.take_of_length_le (Nat.le_refl _)] at h5
    rw [cnt_succ (by omega)]
    omega
end Go.Proofs.YtjjhoonkooihjaaGreatDoor
/- The texts of stitches in plain Lean: what is written, and what is read. -/
namespace Go.Proofs.YtjjhoonkooihjaaGreatDoor
set_option maxRecDepth 100000
/-- a digit -/
def dg (n : Nat) : UInt8 := UInt8.ofNat (48 + n % 10)
def isDg (c : UInt8) : Bool := decide (48 ≤ c) && decide (c ≤ 57)
/-- a number in decimal -/
def decF : Nat → Nat → List UInt8
  | 0, _ => []
  | f + 1, n => if n < 10 then [dg n] else decF f (n / 10) ++ [dg (n % 10)]
def decD (n : Nat) : List UInt8 := decF 20 n
/-- the number of some digits -/
def valD (l : List UInt8) : Nat := l.foldl (fun v c => 10 * v + (c.toNat - 48)) 0
/-- the first digits, at most so many -/
def headD : Nat → List UInt8 → Nat
  | 0, _ => 0
  | _ + 1, [] => 0
  | k + 1, c :: l => if isDg c then headD k l + 1 else 0
/-- reads a number of at most four digits, and what is behind it -/
def numR (l : List UInt8) : Int × List UInt8 := if headD 4 l = 0 then (-1, l) else ((valD (l.take (headD 4 l)) : Int), l.drop (headD 4 l))
/-- the text of a stitch -/
def wordT (s : St) : List UInt8 :=
  if s.k = 2 then [121, 111] else if s.k = 9 then [111, 110] ++ decD s.a.toNat
  else (if s.p then [112] else [107]) ++ flt s.k ++ (if 0 < fa1 s.k then decD s.a.toNat else []) ++ (if 0 < fb1 s.k then 47 :: decD s.b.toNat else [])
/-- equal knits one after the other are written once -/
def grp : List St → List (St × Nat)
  | [] => []
  | s :: l => match grp l with
    | (t, n) :: g => if s.k = 1 ∧ s = t then (t, n + 1) :: g else (s, 1) :: (t, n) :: g
    | [] => [(s, 1)]
def wordG (x : St × Nat) : List UInt8 := wordT x.1 ++ if 1 < x.2 then decD x.2 else []
/-- words with a byte between them -/
def joinB (c : UInt8) : List (List UInt8) → List UInt8
  | [] => []
  | [x] => x
  | x :: y :: l => x ++ c :: joinB c (y :: l)
def textL (l : List St) : List UInt8 := joinB 32 ((grp l).map wordG)
/-- a string cut at a byte -/
def spl (c : UInt8) : List UInt8 → List (List UInt8)
  | [] => [[]]
  | x :: l => if x = c then [] :: spl c l else match spl c l with
    | h :: t => (x :: h) :: t
    | [] => [[x]]
theorem spl_ne (c : UInt8) (l : List UInt8) : spl c l ≠ [] := by
  cases l with
  | nil => simp [spl]
  | cons x l =>
    unfold spl
    split
    · simp
    · split <;> simp
theorem spl_word {c : UInt8} {w : List UInt8} (h : c ∉ w) : spl c w = [w] := by
  induction w with
  | nil => rfl
  | cons x w ih =>
    have h1 : ¬ x = c := fun e => h (by simp [e])
    have h2 := ih (fun e => h (by simp [e]))
    unfold spl
    rw [if_neg h1, h2]
theorem spl_cons {c : UInt8} {w l : List UInt8} (h : c ∉ w) : spl c (w ++ c :: l) = w :: spl c l := by
  induction w with
  | nil => simp [spl]
  | cons x w ih =>
    have h1 : ¬ x = c := fun e => h (by simp [e])
    have h2 := ih (fun e => h (by simp [e]))
    rw [List.cons_append, spl, if_neg h1, h2]
theorem spl_join {c : UInt8} : ∀ {ws : List (List UInt8)}, ws ≠ [] → (∀ w ∈ ws, c ∉ w) → spl c (joinB c ws) = ws := by
  intro ws
  induction ws with
  | nil => intro h; exact absurd rfl h
  | cons x ws ih =>
    intro _ h
    cases ws with
    | nil => exact spl_word (h x (by simp))
    | cons y ws =>
      rw [joinB, spl_cons (h x (by simp)), ih (by simp) (fun w hw => h w (by simp at hw ⊢; exact .inr hw))]
/-- the kind of a letter -/
def kindL (c : UInt8) : Int := if c = 102 then 3 else if c = 108 then 4 else if c = 109 then 5 else if c = 120 then 6 else if c = 121 then 7 else if c = 115 then 8 else if c = 111 then 10 else if c = 63 then 0 else 3
def trimS (l : List UInt8) : List UInt8 := match l with
  | 47 :: t => t
  | l => l
def readK (p : Bool) (c : UInt8) (rest : List UInt8) : St :=
  let k := kindL c
  let a := if 0 < fa1 k then numR rest else (0, rest)
  ⟨k, p, a.1, if 0 < fb1 k then (numR (trimS a.2)).1 else 0⟩
/-- reads a word: the stitch, and how often it stands -/
def readW : List UInt8 → St × Int
  | [] => (st0, 1)
  | c :: rest =>
    if c = 121 ∧ rest = [111] then (⟨2, false, 0, 0⟩, 1)
    else if c = 111 ∧ rest.head? = some 110 then (⟨9, false, (numR rest.tail).1, 0⟩, 1)
    else if ¬ (c = 107 ∨ c = 112) then (st0, 1)
    else match rest with
      | [] => (⟨1, decide (c = 112), 0, 0⟩, 1)
      | d :: r => if 0 ≤ (numR (d :: r)).1 then (⟨1, decide (c = 112), 0, 0⟩, min (max (numR (d :: r)).1 1) 201) else (readK (decide (c = 112)) d r, 1)
/-- the valid stitches, all of them -/
def rng (lo hi : Nat) : List Int := (List.range (hi + 1 - lo)).map (fun i => ((lo + i : Nat) : Int))
def allSt : List St :=
  [false, true].flatMap (fun p => [⟨1, p, 0, 0⟩, ⟨8, p, 0, 0⟩] ++ (rng 2 4).flatMap (fun a => [⟨3, p, a, 0⟩, ⟨4, p, a, 0⟩, ⟨5, p, a, 0⟩])
    ++ (rng 1 6).flatMap (fun a => (rng 1 6).flatMap (fun b => [⟨6, p, a, b⟩, ⟨7, p, a, b⟩])) ++ (rng 1 200).map (fun a => ⟨10, p, a, 0⟩))
  ++ ⟨2, false, 0, 0⟩ :: (rng 1 200).map (fun a => ⟨9, false, a, 0⟩)
theorem mem_rng {lo hi : Nat} {x : Int} (h1 : (lo : Int) ≤ x) (h2 : x ≤ hi) : x ∈ rng lo hi := by
  rw [rng, List.mem_map]
  exact ⟨x.toNat - lo, List.mem_range.2 (by omega), by omega⟩
theorem mem_allSt {s : St} (h : okSt s = true) : s ∈ allSt := by
  obtain ⟨hk, ha, hb, hp⟩ := ok_e h
  have ha := inR_e ha
  have hb := inR_e hb
  obtain ⟨k, p, a, b⟩ := s
  simp only at hk ha hb hp
  have hpm : p ∈ [false, true] := by cases p <;> simp
  unfold allSt
  rw [List.mem_append]
  rcases kind_cases hk with e | e | e | e | e | e | e | e | e | e <;> subst e <;> simp [fa0, fa1, fb0, fb1, fsd] at ha hb hp
  · left
    obtain rfl : a = 0 := by omega
    obtain rfl : b = 0 := by omega
    exact List.mem_flatMap.2 ⟨p, hpm, by simp⟩
  · right
    obtain rfl : a = 0 := by omega
    obtain rfl : b = 0 := by omega
    subst hp
    simp
  · left
    obtain rfl : b = 0 := by omega
    exact List.mem_flatMap.2 ⟨p, hpm, List.mem_append_left _ (List.mem_append_left _ (List.mem_append_right _ (List.mem_flatMap.2 ⟨a, mem_rng (by omega) (by omega), by simp⟩)))⟩
  · left
    obtain rfl : b = 0 := by omega
    exact List.mem_flatMap.2 ⟨p, hpm, List.mem_append_left _ (List.mem_append_left _ (List.mem_append_right _ (List.mem_flatMap.2 ⟨a, mem_rng (by omega) (by omega), by simp⟩)))⟩
  · left
    obtain rfl : b = 0 := by omega
    exact List.mem_flatMap.2 ⟨p, hpm, List.mem_append_left _ (List.mem_append_left _ (List.mem_append_right _ (List.mem_flatMap.2 ⟨a, mem_rng (by omega) (by omega), by simp⟩)))⟩
  · left
    exact List.mem_flatMap.2 ⟨p, hpm, List.mem_append_left _ (List.mem_append_right _ (List.mem_flatMap.2 ⟨a, mem_rng (by omega) (by omega), List.mem_flatMap.2 ⟨b, mem_rng (by omega) (by omega), by simp⟩⟩))⟩
  · left
    exact List.mem_flatMap.2 ⟨p, hpm, List.mem_append_left _ (List.mem_append_right _ (List.mem_flatMap.2 ⟨a, mem_rng (by omega) (by omega), List.mem_flatMap.2 ⟨b, mem_rng (by omega) (by omega), by simp⟩⟩))⟩
  · left
    obtain rfl : a = 0 := by omega
    obtain rfl : b = 0 := by omega
    exact List.mem_flatMap.2 ⟨p, hpm, by simp⟩
  · right
    obtain rfl : b = 0 := by omega
    subst hp
    exact List.mem_cons_of_mem _ (List.mem_map.2 ⟨a, mem_rng (by omega) (by omega), rfl⟩)
  · left
    obtain rfl : b = 0 := by omega
    exact List.mem_flatMap.2 ⟨p, hpm, List.mem_append_right _ (List.mem_map.2 ⟨a, mem_rng (by omega) (by omega), rfl⟩)⟩
/-- what is asked of each valid word -/
def wordOk (s : St) : Bool := decide (readW (wordT s) = (s, 1)) && !(wordT s).contains 32 && !(wordT s).contains 10 && decide ((wordT s).length ≤ 5) && decide (0 < (wordT s).length)
theorem words_ok : allSt.all wordOk = true := by decide +kernel
def runOk (n : Nat) : Bool := [false, true].all (fun p => decide (readW (wordG (⟨1, p, 0, 0⟩, n + 2)) = (⟨1, p, 0, 0⟩, ((n + 2 : Nat) : Int))) && !(wordG (⟨1, p, 0, 0⟩, n + 2)).contains 32 && !(wordG (⟨1, p, 0, 0⟩, n + 2)).contains 10 && decide ((wordG (⟨1, p, 0, 0⟩, n + 2)).length ≤ 5))
theorem runs_ok : (List.range 199).all runOk = true := by decide +kernel
end Go.Proofs.YtjjhoonkooihjaaGreatDoor
/- Parse of Text is the list: the plain law of the texts of stitches. -/
namespace Go.Proofs.YtjjhoonkooihjaaGreatDoor
set_option maxRecDepth 100000
/-- what is known of a word that is written -/
structure WordFine (x : St × Nat) : Prop where
  read : readW (wordG x) = (x.1, (x.2 : Int))
  blank : (32 : UInt8) ∉ wordG x
  line : (10 : UInt8) ∉ wordG x
  short : (wordG x).length ≤ 5
  long : 0 < (wordG x).length
theorem word_fine {s : St} {n : Nat} (h : okSt s = true) (h1 : 1 ≤ n) (h2 : n ≤ 200) (h3 : n = 1 ∨ s.k = 1) : WordFine (s, n) := by
  rcases Nat.lt_or_ge 1 n with hn | hn
  · have hk : s.k = 1 := by rcases h3 with h3 | h3; · omega
                            · exact h3
    obtain ⟨hk1, ha, hb, hp⟩ := ok_e h
    rw [hk] at ha hb
    have ha := inR_e ha
    have hb := inR_e hb
    simp [fa0, fa1, fb0, fb1] at ha hb
    obtain ⟨k, p, a, b⟩ := s
    simp only at hk ha hb
    subst hk
    obtain rfl : a = 0 := by omega
    obtain rfl : b = 0 := by omega
    obtain ⟨m, rfl⟩ : ∃ m, n = m + 2 := ⟨n - 2, by omega⟩
    have h5 := List.all_eq_true.1 runs_ok m (List.mem_range.2 (by omega))
    have h6 := List.all_eq_true.1 h5 p (by cases p <;> simp)
    simp only [Bool.and_eq_true, decide_eq_true_eq, Bool.not_eq_true'] at h6
    refine ⟨h6.1.1.1, fun h => ?_, fun h => ?_, h6.2, ?_⟩
    · have := List.contains_iff_mem.2 h; rw [h6.1.1.2] at this; cases this
    · have := List.contains_iff_mem.2 h; rw [h6.1.2] at this; cases this
    · have : 0 < (wordT ⟨1, p, 0, 0⟩).length := by cases p <;> decide
      simp only [wordG, List.length_append]; omega
  · obtain rfl : n = 1 := by omega
    have h5 := List.all_eq_true.1 words_ok s (mem_allSt h)
    simp only [wordOk, Bool.and_eq_true, decide_eq_true_eq, Bool.not_eq_true'] at h5
    have e : wordG (s, 1) = wordT s := by simp [wordG]
    refine ⟨by rw [e]; exact h5.1.1.1.1, fun h => ?_, fun h => ?_, by rw [e]; exact h5.1.2, by rw [e]; exact h5.2⟩
    · rw [e] at h; have := List.contains_iff_mem.2 h; rw [h5.1.1.1.2] at this; cases this
    · rw [e] at h; have := List.contains_iff_mem.2 h; rw [h5.1.1.2] at this; cases this
theorem grp_cons (s : St) (l : List St) : (∃ n g, grp l = (s, n) :: g ∧ s.k = 1 ∧ grp (s :: l) = (s, n + 1) :: g) ∨ (grp (s :: l) = (s, 1) :: grp l ∧ ∀ n g, grp l = (s, n) :: g → s.k ≠ 1) := by
  rcases h : grp l with _ | ⟨⟨t, n⟩, g⟩
  · exact .inr ⟨by simp [grp, h], fun n g e => by cases e⟩
  · by_cases hc : s.k = 1 ∧ s = t
    · obtain ⟨h1, rfl⟩ := hc
      exact .inl ⟨n, g, rfl, h1, by simp [grp, h, h1]⟩
    · refine .inr ⟨by simp only [grp, h]; rw [if_neg hc], fun n' g' e hk => hc ⟨hk, ?_⟩⟩
      injection e with e1 e2
      injection e1 with e1 e3
      exact e1.symm
theorem grp_expand (l : List St) : (grp l).flatMap (fun x => List.replicate x.2 x.1) = l := by
  induction l with
  | nil => rfl
  | cons s l ih =>
    rcases grp_cons s l with ⟨n, g, h1, _, h3⟩ | ⟨h1, _⟩
    · rw [h1] at ih
      rw [h3, List.flatMap_cons] 
      rw [List.flatMap_cons] at ih
      rw [List.replicate_succ, List.cons_append, ih]
    · rw [h1, List.flatMap_cons, ih]; rfl
theorem grp_sum (l : List St) : ((grp l).map (·.2)).sum = l.length := by
  induction l with
  | nil => rfl
  | cons s l ih =>
    rcases grp_cons s l with ⟨n, g, h1, _, h3⟩ | ⟨h1, _⟩
    · rw [h1] at ih
      rw [h3]
      simp at ih ⊢
      omega
    · rw [h1]; simp at ih ⊢; omega
theorem grp_mem {l : List St} : ∀ {x : St × Nat}, x ∈ grp l → x.1 ∈ l ∧ 1 ≤ x.2 ∧ (x.2 = 1 ∨ x.1.k = 1) := by
  induction l with
  | nil => intro x h; cases h
  | cons s l ih =>
    intro x h
    rcases grp_cons s l with ⟨n, g, h1, h2, h3⟩ | ⟨h1, _⟩
    · rw [h3] at h
      rcases List.mem_cons.1 h with rfl | h
      · exact ⟨by simp, by simp, .inr h2⟩
      · have := ih (x := x) (by rw [h1]; simp [h])
        exact ⟨by simp [this.1], this.2⟩
    · rw [h1] at h
      rcases List.mem_cons.1 h with rfl | h
      · exact ⟨by simp, by simp, .inl rfl⟩
      · have := ih h
        exact ⟨by simp [this.1], this.2⟩
theorem grp_ne {l : List St} (h : l ≠ []) : grp l ≠ [] := by
  cases l with
  | nil => exact absurd rfl h
  | cons s l =>
    rcases grp_cons s l with ⟨n, g, _, _, h3⟩ | ⟨h1, _⟩
    · rw [h3]; simp
    · rw [h1]; simp
theorem le_sum {l : List (St × Nat)} {x : St × Nat} (h : x ∈ l) : x.2 ≤ (l.map (·.2)).sum := by
  induction l with
  | nil => cases h
  | cons y l ih =>
    rcases List.mem_cons.1 h with rfl | h
    · simp
    · have := ih h; simp at this ⊢; omega
theorem grp_fine {l : List St} (h : allE l = 0) {x : St × Nat} (hx : x ∈ grp l) : WordFine x := by
  obtain ⟨h1, h2, _, _⟩ := allE_e h
  obtain ⟨m1, m2, m3⟩ := grp_mem hx
  have h4 := le_sum hx
  rw [grp_sum] at h4
  exact word_fine (List.all_eq_true.1 h2 _ m1) m2 (by omega) m3
/-- what Parse does with the words -/
def parseGo : List St → List (List UInt8) → Option (List St)
  | acc, [] => some acc
  | acc, w :: ws => if okSt (readW w).1 = true ∧ (acc.length : Int) + (readW w).2 ≤ 200 then parseGo (acc ++ List.replicate (readW w).2.toNat (readW w).1) ws else none
def parseW (s : List UInt8) : Option (List St) := if s = [] then some [] else parseGo [] (spl 32 s)
def parseL (s : List UInt8) : Option (List St) :=
  if 3000 < s.length then none else (parseW s).bind fun l => if allE l = 0 ∧ textL l = s then some l else none
theorem parseGo_words {gs : List (St × Nat)} : ∀ {acc : List St}, (∀ x ∈ gs, WordFine x ∧ okSt x.1 = true) → acc.length + (gs.map (·.2)).sum ≤ 200 →
    parseGo acc (gs.map wordG) = some (acc ++ gs.flatMap (fun x => List.replicate x.2 x.1)) := by
  induction gs with
  | nil => intro acc _ _; simp [parseGo]
  | cons x gs ih =>
    intro acc h hs
    obtain ⟨hf, hk⟩ := h x (by simp)
    simp only [List.map_cons, List.sum_cons] at hs
    rw [List.map_cons, parseGo, hf.read]
    rw [if_pos ⟨hk, by simp only; omega⟩]
    rw [ih (fun y hy => h y (by simp [hy])) (by simp; omega)]
    simp
theorem text_nil : textL [] = [] := rfl
theorem join_len_le {c : UInt8} {ws : List (List UInt8)} {m : Nat} (h : ∀ w ∈ ws, w.length ≤ m) : (joinB c ws).length ≤ (m + 1) * ws.length := by
  induction ws with
  | nil => simp [joinB]
  | cons x ws ih =>
    have hx := h x (by simp)
    cases ws with
    | nil => simp only [joinB, List.length_cons, List.length_nil]; omega
    | cons y ws =>
      have := ih (fun w hw => h w (by simp at hw ⊢; exact .inr hw))
      simp only [joinB, List.length_append, List.length_cons] at this ⊢
      rw [Nat.mul_add (m + 1) (ws.length + 1) 1, Nat.mul_one]
      omega
theorem grp_len (l : List St) : (grp l).length ≤ l.length := by
  induction l with
  | nil => simp [grp]
  | cons s l ih =>
    rcases grp_cons s l with ⟨n, g, h1, _, h3⟩ | ⟨h1, _⟩
    · rw [h1] at ih; rw [h3]; simp at ih ⊢; omega
    · rw [h1]; simp; omega
/-- a text is never too long -/
theorem text_len {l : List St} (h : allE l = 0) : (textL l).length ≤ 6 * l.length := by
  have h1 := join_len_le (c := 32) (ws := (grp l).map wordG) (m := 5) (fun w hw => by
    obtain ⟨x, hx, rfl⟩ := List.mem_map.1 hw
    exact (grp_fine h hx).short)
  have h2 := grp_len l
  rw [List.length_map] at h1
  unfold textL
  omega
theorem text_short {l : List St} (h : allE l = 0) : (textL l).length ≤ 1200 := by
  have h1 := text_len h
  have h2 := (allE_e h).1
  omega
theorem join_ne {c : UInt8} {ws : List (List UInt8)} (h : ws ≠ []) (hw : ∀ w ∈ ws, 0 < w.length) : joinB c ws ≠ [] := by
  cases ws with
  | nil => exact absurd rfl h
  | cons x ws =>
    have := hw x (by simp)
    cases ws with
    | nil => intro e; rw [joinB] at e; rw [e] at this; simp at this
    | cons y ws => intro e; rw [joinB] at e; simp at e
theorem text_spl {l : List St} (h : allE l = 0) (hl : l ≠ []) : spl 32 (textL l) = (grp l).map wordG :=
  spl_join (by simpa using grp_ne hl) (fun w hw => by
    obtain ⟨x, hx, rfl⟩ := List.mem_map.1 hw
    exact (grp_fine h hx).blank)
/-- Parse of Text is the list -/
theorem parse_text {l : List St} (h : allE l = 0) : parseL (textL l) = some l := by
  have hs := text_short h
  rw [parseL, if_neg (by omega)]
  have hw : parseW (textL l) = some l := by
    rcases List.eq_nil_or_concat l with rfl | ⟨l', x, e⟩
    · rfl
    · have hl : l ≠ [] := by rw [e]; simp
      have hne : textL l ≠ [] := join_ne (by simpa using grp_ne hl) (fun w hw => by
        obtain ⟨x, hx, rfl⟩ := List.mem_map.1 hw
        exact (grp_fine h hx).long)
      rw [parseW, if_neg hne, text_spl h hl, parseGo_words (fun y hy => ⟨grp_fine h hy, List.all_eq_true.1 (allE_e h).2.1 _ (grp_mem hy).1⟩) (by rw [grp_sum]; have := (allE_e h).1; simp; omega), grp_expand]
      simp
  rw [hw, Option.bind_some, if_pos ⟨h, rfl⟩]
theorem parse_iff {s : List UInt8} {l : List St} : parseL s = some l ↔ s.length ≤ 3000 ∧ allE l = 0 ∧ textL l = s := by
  constructor
  · intro h
    unfold parseL at h
    split at h
    · cases h
    · obtain ⟨l', h1, h2⟩ := Option.bind_eq_some_iff.1 h
      split at h2
      · rename_i h3
        cases h2
        exact ⟨by omega, h3⟩
      · cases h2
  · rintro ⟨h1, h2, rfl⟩
    exact parse_text h2
end Go.Proofs.YtjjhoonkooihjaaGreatDoor
/- The texts of charts in plain Lean: what is written, and what is read. -/
namespace Go.Proofs.YtjjhoonkooihjaaGreatDoor
set_option maxRecDepth 100000
/-- the number of a string, as Atoi takes it -/
def atoiO (l : List UInt8) : Option Int := match Lib.atoiAll l with
  | .ok v => some v
  | _ => none
def wStart : List UInt8 := [115, 116, 97, 114, 116, 32]
def sideT (b : Bool) : List UInt8 := if b then [98, 97, 99, 107] else [102, 114, 111, 110, 116]
/-- the line of a row -/
def rowL (r : Ro) : List UInt8 := sideT r.back ++ (if textL r.cells = [] then [] else 32 :: textL r.cells)
def rowsL (l : List Ro) : List UInt8 := l.flatMap (fun r => rowL r ++ [10])
def chartL (s : Int) (l : List Ro) : List UInt8 := wStart ++ decD s.toNat ++ [10] ++ rowsL l
/-- a string cut at the first such byte: what is ahead, what is behind, whether it is there -/
def cutF (c : UInt8) : List UInt8 → List UInt8 × List UInt8 × Bool
  | [] => ([], [], false)
  | x :: l => if x = c then ([], l, true) else (x :: (cutF c l).1, (cutF c l).2.1, (cutF c l).2.2)
theorem cutF_miss {c : UInt8} {w : List UInt8} (h : c ∉ w) : cutF c w = (w, [], false) := by
  induction w with
  | nil => rfl
  | cons x w ih =>
    have h1 : ¬ x = c := fun e => h (by simp [e])
    rw [cutF, if_neg h1, ih (fun e => h (by simp [e]))]
theorem cutF_hit {c : UInt8} {w l : List UInt8} (h : c ∉ w) : cutF c (w ++ c :: l) = (w, l, true) := by
  induction w with
  | nil => simp [cutF]
  | cons x w ih =>
    have h1 : ¬ x = c := fun e => h (by simp [e])
    rw [List.cons_append, cutF, if_neg h1, ih (fun e => h (by simp [e]))]
/-- what is read of a row's line -/
def rowP (line : List UInt8) : Option Ro := (parseL (cutF 32 line).2.1).map fun l => ⟨decide ((cutF 32 line).1 = sideT true), l⟩
/-- what is read of the rows' lines; the number only ends the way down -/
def rowsP : Nat → List Ro → List UInt8 → Option (List Ro)
  | 0, acc, rest => if rest = [] ∨ 100 < acc.length then some acc else none
  | f + 1, acc, rest => if rest = [] ∨ 100 < acc.length then some acc else if (cutF 10 rest).2.2 = false then none else
    match rowP (cutF 10 rest).1 with
    | none => none
    | some r => rowsP f (acc ++ [r]) (cutF 10 rest).2.1
def trimF (line : List UInt8) : List UInt8 := if wStart.isPrefixOf line then line.drop 6 else line
def chartP (s : List UInt8) : Option (Int × List Ro) :=
  if 20000 < s.length then none else if (cutF 10 s).2.2 = false then none else
  match atoiO (trimF (cutF 10 s).1) with
  | none => none
  | some n => (rowsP s.length [] (cutF 10 s).2.1).bind fun l => if chkC n l = 0 ∧ chartL n l = s then some (n, l) else none
theorem mem_join {c x : UInt8} {ws : List (List UInt8)} (h : x ∈ joinB c ws) : x = c ∨ ∃ w ∈ ws, x ∈ w := by
  induction ws with
  | nil => simp [joinB] at h
  | cons y ws ih =>
    cases ws with
    | nil => exact .inr ⟨y, by simp, h⟩
    | cons z ws =>
      rw [joinB, List.mem_append, List.mem_cons] at h
      rcases h with h | h | h
      · exact .inr ⟨y, by simp, h⟩
      · exact .inl h
      · rcases ih h with h | ⟨w, hw, hx⟩
        · exact .inl h
        · exact .inr ⟨w, by simp at hw ⊢; exact .inr hw, hx⟩
theorem text_line {l : List St} (h : allE l = 0) : (10 : UInt8) ∉ textL l := by
  intro h9
  rcases mem_join h9 with h8 | ⟨w, hw, hx⟩
  · cases h8
  · obtain ⟨x, hx2, rfl⟩ := List.mem_map.1 hw
    exact (grp_fine h hx2).line hx
theorem text_empty {l : List St} (h : allE l = 0) (h0 : textL l = []) : l = [] := by
  have h1 := parse_text h
  rw [h0] at h1
  have h2 : parseL [] = some [] := by decide +kernel
  rw [h2] at h1
  cases h1
  rfl
theorem row_line {r : Ro} (h : allE r.cells = 0) : (10 : UInt8) ∉ rowL r := by
  have h1 := text_line h
  unfold rowL
  intro h9
  rcases List.mem_append.1 h9 with h9 | h9
  · cases hb : r.back <;> rw [hb] at h9 <;> revert h9 <;> decide
  · split at h9
    · cases h9
    · rcases List.mem_cons.1 h9 with h9 | h9
      · cases h9
      · exact h1 h9
theorem row_back {r : Ro} (h : allE r.cells = 0) : rowP (rowL r) = some r := by
  obtain ⟨b, cs⟩ := r
  have h32 : (32 : UInt8) ∉ sideT b := by cases b <;> decide
  have hsd : decide (sideT b = sideT true) = b := by cases b <;> decide
  unfold rowP rowL
  simp only at h ⊢
  by_cases h0 : textL cs = []
  · rw [if_pos h0, List.append_nil, cutF_miss h32]
    obtain rfl := text_empty h h0
    have h2 : parseL [] = some [] := by decide +kernel
    simp only [h2, Option.map_some, hsd]
  · rw [if_neg h0, cutF_hit h32]
    simp only [parse_text h, Option.map_some, hsd]
theorem rows_back : ∀ {l : List Ro} {acc : List Ro} {f : Nat}, (∀ r ∈ l, allE r.cells = 0) → l.length ≤ f → acc.length + l.length ≤ 100 → rowsP f acc (rowsL l) = some (acc ++ l) := by
  intro l
  induction l with
  | nil =>
    intro acc f _ _ _
    cases f <;> simp [rowsP, rowsL]
  | cons r l ih =>
    intro acc f h hf hn
    cases f with
    | zero => simp at hf
    | succ f =>
      simp only [List.length_cons] at hf hn
      have e : rowsL (r :: l) = rowL r ++ 10 :: rowsL l := by simp [rowsL]
      have hne : ¬ (rowL r ++ 10 :: rowsL l = [] ∨ 100 < acc.length) := by
        rintro (h9 | h9)
        · simp at h9
        · omega
      rw [e, rowsP, if_neg hne, cutF_hit (row_line (h r (by simp)))]
      simp only [Bool.true_eq_false, if_false]
      rw [row_back (h r (by simp))]
      simp only
      rw [ih (fun x hx => h x (by simp [hx])) (by omega) (by simp; omega)]
      simp
def numOk (k : Nat) : Bool := decide (atoiO (trimF (wStart ++ decD k)) = some (k : Int)) && !(wStart ++ decD k).contains 10
theorem nums_ok : (List.range 201).all numOk = true := by decide +kernel
theorem chkGo_rows : ∀ {l : List Ro} {n : Int}, chkGo n l = 0 → ∀ r ∈ l, allE r.cells = 0 := by
  intro l
  induction l with
  | nil => intro n _ r hr; cases hr
  | cons x l ih =>
    intro n h r hr
    rw [chkGo] at h
    split at h
    · rename_i h1
      exact absurd h h1
    · rename_i h1
      split at h
      · cases h
      · rcases List.mem_cons.1 hr with rfl | hr
        · simpa using h1
        · exact ih h r hr
theorem chkC_facts {s : Int} {l : List Ro} (h : chkC s l = 0) : l.length ≤ 100 ∧ 0 ≤ s ∧ s ≤ 200 ∧ ∀ r ∈ l, allE r.cells = 0 := by
  unfold chkC at h
  split at h
  · cases h
  · split at h
    · cases h
    · exact ⟨by omega, by omega, by omega, chkGo_rows h⟩
theorem rowsL_len (l : List Ro) : l.length ≤ (rowsL l).length := by
  induction l with
  | nil => simp
  | cons r l ih =>
    have e : rowsL (r :: l) = (rowL r ++ [10]) ++ rowsL l := by simp [rowsL]
    rw [e]
    simp only [List.length_append, List.length_cons, List.length_nil]
    omega
/-- Parse of Text is the chart -/
theorem chart_back {s : Int} {l : List Ro} (h : chkC s l = 0) (hlen : (chartL s l).length ≤ 20000) : chartP (chartL s l) = some (s, l) := by
  obtain ⟨h1, h2, h3, h4⟩ := chkC_facts h
  have h5 := List.all_eq_true.1 nums_ok s.toNat (List.mem_range.2 (by omega))
  simp only [numOk, Bool.and_eq_true, decide_eq_true_eq, Bool.not_eq_true'] at h5
  have hn : (10 : UInt8) ∉ wStart ++ decD s.toNat := fun h9 => by
    have := List.contains_iff_mem.2 h9
    rw [h5.2] at this
    cases this
  have e : chartL s l = (wStart ++ decD s.toNat) ++ 10 :: rowsL l := by simp [chartL]
  have hc : cutF 10 (chartL s l) = (wStart ++ decD s.toNat, rowsL l, true) := by rw [e]; exact cutF_hit hn
  rw [chartP, if_neg (by omega), hc]
  simp only [Bool.true_eq_false, if_false]
  rw [h5.1]
  simp only
  have hr := rowsL_len l
  have hf : (rowsL l).length ≤ (chartL s l).length := by rw [e]; simp only [List.length_append, List.length_cons]; omega
  rw [rows_back h4 (by omega) (by simpa using h1), Option.bind_some, List.nil_append]
  have es : ((s.toNat : Nat) : Int) = s := by omega
  rw [es, if_pos ⟨h, rfl⟩]
theorem chart_iff {t : List UInt8} {s : Int} {l : List Ro} : chartP t = some (s, l) ↔ t.length ≤ 20000 ∧ chkC s l = 0 ∧ chartL s l = t := by
  constructor
  · intro h
    unfold chartP at h
    split at h
    · cases h
    · split at h
      · cases h
      · split at h
        · cases h
        · obtain ⟨l', _, h3⟩ := Option.bind_eq_some_iff.1 h
          split at h3
          · rename_i h4
            cases h3
            exact ⟨by omega, h4⟩
          · cases h3
  · rintro ⟨h1, h2, rfl⟩
    exact chart_back h2 h1
end Go.Proofs.YtjjhoonkooihjaaGreatDoor
/- Small facts on worlds that have only grown, for the walks of this claim. -/
namespace Go.Proofs.YtjjhoonkooihjaaGreatDoor
set_option maxRecDepth 100000
open Go.RowKit

/-- the world has grown: what was there is as it was -/
def Ext (w w' : World) : Prop := Below w.heap.size w w'
theorem Ext.refl (w : World) : Ext w w := Below.refl _ _
theorem Ext.trans {a b c : World} (h : Ext a b) (k : Ext b c) : Ext a c := Below.trans h (Below.mono k (Below.size h))
theorem Ext.alloc {a b : World} (h : Ext a b) (o : Obj) : Ext a (b.alloc o) := Below.alloc h (Below.size h) o
theorem Ext.drew {a b : World} (h : Ext a b) : Ext a b.drew := Below.drew h
theorem Ext.drewN {a b : World} (h : Ext a b) (n : Nat) : Ext a (b.drewN n) := ⟨h.os, h.tape, h.output, h.size, h.block⟩
theorem Ext.via {a b b' c : World} (h : Ext a b) (k : Ext b' c) (hb : Ext b b') : Ext a c := (h.trans hb).trans k
theorem Ext.facts {W w1 : World} (hb : Ext W w1) : (∀ b o, b < W.heap.size → w1.cell? ⟨b, o, none⟩ = W.cell? ⟨b, o, none⟩) ∧ (∀ b o, b < W.heap.size → w1.frozen? ⟨b, o, none⟩ = W.frozen? ⟨b, o, none⟩) ∧ (∀ b, b < W.heap.size → b < w1.heap.size) :=
  ⟨fun b o h => Below.cell (p := ⟨b, o, none⟩) hb h, fun b o h => Below.frozen (p := ⟨b, o, none⟩) hb h, fun _ h => Nat.lt_of_lt_of_le h (Below.size hb)⟩


theorem prod_bd {a b A B : Int} (h0 : 0 ≤ a) (h1 : a ≤ A) (h2 : 0 ≤ b) (h3 : b ≤ B) : 0 ≤ a * b ∧ a * b ≤ A * B :=
  ⟨Int.mul_nonneg h0 h2, Int.mul_le_mul h1 h3 h2 (by omega)⟩
end Go.Proofs.YtjjhoonkooihjaaGreatDoor
