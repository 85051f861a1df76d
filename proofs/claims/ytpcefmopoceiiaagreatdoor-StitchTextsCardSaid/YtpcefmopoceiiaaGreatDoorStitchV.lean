/- The reference's Parse of stitches in plain Lean: it reads what Parse reads. -/
import Derived.Test.YtpcefmopoceiiaaGreatDoorStitchU
import Derived.Test.YtpcefmopoceiiaaGreatDoorOther
namespace Go.Proofs.YtpcefmopoceiiaaGreatDoor
set_option maxRecDepth 100000
/-- a number of at most four digits, without zeros in front -/
def numS (l : List UInt8) : Option Nat :=
  if l.length = 0 ∨ 4 < l.length ∨ (1 < l.length ∧ l.head? = some 48) then none else if l.all isDg then some (valD l) else none
/-- the kind with a letter, 0 if there is none -/
def kindR (c : UInt8) : Int := if c = 102 then 3 else if c = 108 then 4 else if c = 109 then 5 else if c = 120 then 6 else if c = 121 then 7 else if c = 115 then 8 else if c = 111 then 10 else 0
/-- what the reference reads of the parts behind the letter -/
def refParts (k : Int) (p : Bool) (parts : List (List UInt8)) : Option (List St) :=
  if k = 6 ∨ k = 7 then
    if parts.length = 2 then (numS (parts.getD 1 [])).bind fun b => (numS (parts.getD 0 [])).bind fun a => some [⟨k, p, a, b⟩] else none
  else if k ≠ 0 ∧ parts.length = 1 then (numS (parts.getD 0 [])).bind fun a => some [⟨k, p, a, 0⟩] else none
def refWord : List UInt8 → Option (List St)
  | [] => none
  | c :: rest =>
    if c = 121 ∧ rest = [111] then some [⟨2, false, 0, 0⟩]
    else if 1 < rest.length ∧ c = 111 ∧ rest.head? = some 110 then (numS rest.tail).bind fun a => some [⟨9, false, a, 0⟩]
    else if ¬ (c = 107 ∨ c = 112) then none
    else match rest with
      | [] => some [⟨1, decide (c = 112), 0, 0⟩]
      | d :: r => match numS (d :: r) with
        | some n => if 1 < n then some (List.replicate (min n 300) ⟨1, decide (c = 112), 0, 0⟩) else none
        | none => if kindR d = 8 then (if r = [] then some [⟨8, decide (c = 112), 0, 0⟩] else none) else refParts (kindR d) (decide (c = 112)) (spl 47 r)
def rparseGo : List St → List (List UInt8) → Option (List St)
  | acc, [] => some acc
  | acc, w :: ws => match refWord w with
    | none => none
    | some l => if 200 < (acc ++ l).length then none else rparseGo (acc ++ l) ws
def rparseW (s : List UInt8) : Option (List St) := if s = [] then some [] else rparseGo [] (spl 32 s)
def rparseL (s : List UInt8) : Option (List St) :=
  if 3000 < s.length then none else (rparseW s).bind fun l => if allE l = 0 ∧ textL l = s then some l else none
def rwordOk (s : St) : Bool := decide (refWord (wordT s) = some [s])
theorem rwords_ok : allSt.all rwordOk = true := by decide +kernel
def rrunOk (n : Nat) : Bool := [false, true].all (fun p => decide (refWord (wordG (⟨1, p, 0, 0⟩, n + 2)) = some (List.replicate (n + 2) ⟨1, p, 0, 0⟩)))
theorem rruns_ok : (List.range 199).all rrunOk = true := by decide +kernel
theorem ref_word {s : St} {n : Nat} (h : okSt s = true) (h1 : 1 ≤ n) (h2 : n ≤ 200) (h3 : n = 1 ∨ s.k = 1) : refWord (wordG (s, n)) = some (List.replicate n s) := by
  rcases Nat.lt_or_ge 1 n with hn | hn
  · have hk : s.k = 1 := by rcases h3 with h3 | h3; · omega
                            · exact h3
    obtain ⟨hk1, ha, hb, hp⟩ := ok_e h
    rw [hk] at ha hb
    have ha := inR_e ha
    have hb := inR_e hb
    simp [fa0, fa1, fb0, fb1] at ha hb
    obtain ⟨k, p, a, b⟩ := s
    simp only at hk ha hb
    subst hk
    obtain rfl : a = 0 := by omega
    obtain rfl : b = 0 := by omega
    obtain ⟨m, rfl⟩ : ∃ m, n = m + 2 := ⟨n - 2, by omega⟩
    have h5 := List.all_eq_true.1 rruns_ok m (List.mem_range.2 (by omega))
    have h6 := List.all_eq_true.1 h5 p (by cases p <;> simp)
    exact of_decide_eq_true h6
  · obtain rfl : n = 1 := by omega
    have h5 := List.all_eq_true.1 rwords_ok s (mem_allSt h)
    have e : wordG (s, 1) = wordT s := by simp [wordG]
    rw [e]
    exact of_decide_eq_true h5
theorem rparseGo_words {gs : List (St × Nat)} : ∀ {acc : List St}, (∀ x ∈ gs, refWord (wordG x) = some (List.replicate x.2 x.1)) → acc.length + (gs.map (·.2)).sum ≤ 200 →
    rparseGo acc (gs.map wordG) = some (acc ++ gs.flatMap (fun x => List.replicate x.2 x.1)) := by
  induction gs with
  | nil => intro acc _ _; simp [rparseGo]
  | cons x gs ih =>
    intro acc h hs
    have hf := h x (by simp)
    simp only [List.map_cons, List.sum_cons] at hs
    rw [List.map_cons, rparseGo, hf]
    simp only
    rw [if_neg (by simp; omega)]
    rw [ih (fun y hy => h y (by simp [hy])) (by simp; omega)]
    simp
theorem rparse_text {l : List St} (h : allE l = 0) : rparseL (textL l) = some l := by
  have hs := text_short h
  rw [rparseL, if_neg (by omega)]
  have hw : rparseW (textL l) = some l := by
    rcases List.eq_nil_or_concat l with rfl | ⟨l', x, e⟩
    · rfl
    · have hl : l ≠ [] := by rw [e]; simp
      have hne : textL l ≠ [] := join_ne (by simpa using grp_ne hl) (fun w hw => by
        obtain ⟨x, hx, rfl⟩ := List.mem_map.1 hw
        exact (grp_fine h hx).long)
      obtain ⟨g1, g2, _, _⟩ := allE_e h
      rw [rparseW, if_neg hne, text_spl h hl, rparseGo_words (fun y hy => by
        obtain ⟨m1, m2, m3⟩ := grp_mem hy
        have h4 := le_sum hy
        rw [grp_sum] at h4
        exact ref_word (List.all_eq_true.1 g2 _ m1) m2 (by omega) m3) (by rw [grp_sum]; simp; omega), grp_expand]
      simp
  rw [hw, Option.bind_some, if_pos ⟨h, rfl⟩]
theorem rparse_iff {s : List UInt8} {l : List St} : rparseL s = some l ↔ s.length ≤ 3000 ∧ allE l = 0 ∧ textL l = s := by
  constructor
  · intro h
    unfold rparseL at h
    split at h
    · cases h
    · obtain ⟨l', h1, h2⟩ := Option.bind_eq_some_iff.1 h
      split at h2
      · rename_i h3
        cases h2
        exact ⟨by omega, h3⟩
      · cases h2
  · rintro ⟨h1, h2, rfl⟩
    exact rparse_text h2
/-- both read the same -/
theorem rparse_eq (s : List UInt8) : rparseL s = parseL s := by
  apply Option.ext
  intro l
  rw [rparse_iff, parse_iff]
def othOk (s : St) : Bool := okSt (otherSt s) && decide (otherSt (otherSt s) = s) && decide (usV (otherSt s) = usV s) && decide (mkV (otherSt s) = mkV s)
theorem oths_ok : allSt.all othOk = true := by decide +kernel
theorem other_ok {s : St} (h : okSt s = true) : okSt (otherSt s) = true ∧ otherSt (otherSt s) = s ∧ usV (otherSt s) = usV s ∧ mkV (otherSt s) = mkV s := by
  have h5 := List.all_eq_true.1 oths_ok s (mem_allSt h)
  simp only [othOk, Bool.and_eq_true, decide_eq_true_eq] at h5
  exact ⟨h5.1.1.1, h5.1.1.2, h5.1.2, h5.2⟩
theorem usL_app (a b : List St) : usL (a ++ b) = usL a + usL b := by simp [usL]
theorem mkL_app (a b : List St) : mkL (a ++ b) = mkL a + mkL b := by simp [mkL]
theorem allB_app (a b : List St) : allB (a ++ b) = (allB a && allB b) := by simp [allB]
theorem turn_facts {l : List St} (h : allB l = true) : allB (turnL l) = true ∧ turnL (turnL l) = l ∧ usL (turnL l) = usL l ∧ mkL (turnL l) = mkL l := by
  induction l with
  | nil => exact ⟨rfl, rfl, rfl, rfl⟩
  | cons s l ih =>
    have e : s :: l = [s] ++ l := rfl
    rw [e, allB_app, Bool.and_eq_true] at h
    obtain ⟨i1, i2, i3, i4⟩ := ih h.2
    obtain ⟨o1, o2, o3, o4⟩ := other_ok (s := s) (by simpa [allB] using h.1)
    rw [e, turnL_app, allB_app, turnL_app, i1, i2, usL_app, mkL_app, usL_app, mkL_app, i3, i4]
    have t1 : turnL [s] = [otherSt s] := rfl
    rw [t1]
    refine ⟨by simp [allB, o1], by simp [turnL, o2], ?_, ?_⟩
    · simp only [usL, List.map_cons, List.map_nil, List.sum_cons, List.sum_nil, o3]; omega
    · simp only [mkL, List.map_cons, List.map_nil, List.sum_cons, List.sum_nil, o4]; omega
theorem turn_all {l : List St} (h : allE l = 0) : allE (turnL l) = 0 := by
  obtain ⟨h1, h2, h3, h4⟩ := allE_e h
  obtain ⟨t1, _, t3, t4⟩ := turn_facts h2
  exact allE_ok (by rw [turnL_len]; omega) t1 (by rw [t3, t4]; omega)
theorem sum_nonneg {l : List St} (h : allB l = true) : 0 ≤ usL l ∧ 0 ≤ mkL l := by
  have := sums_bd h l.length (Nat.le_refl _)
  rw [List.take_of_length_le (Nat.le_refl _)] at this
  omega
/-- parts of a valid list are valid -/
theorem part_all {a b : List St} (h : allE (a ++ b) = 0) : allE a = 0 ∧ allE b = 0 := by
  obtain ⟨h1, h2, h3, h4⟩ := allE_e h
  rw [allB_app, Bool.and_eq_true] at h2
  rw [usL_app] at h3
  rw [mkL_app] at h4
  rw [List.length_append] at h1
  have n1 := sum_nonneg h2.1
  have n2 := sum_nonneg h2.2
  exact ⟨allE_ok (by omega) h2.1 (by omega), allE_ok (by omega) h2.2 (by omega)⟩
end Go.Proofs.YtpcefmopoceiiaaGreatDoor
