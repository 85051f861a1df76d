/- Stitches in plain Lean: what is valid, what they use and make. -/
namespace Go.Proofs.Ytfhecgipfhhchaa
set_option maxRecDepth 100000
/-- whether a number is in a range -/
def inR (n lo hi : Int) : Bool := decide (lo ≤ n) && decide (n ≤ hi)
theorem inR_t {n lo hi : Int} (h : lo ≤ n) (k : n ≤ hi) : inR n lo hi = true := by simp [inR, h, k]
theorem inR_f {n lo hi : Int} (h : n < lo ∨ hi < n) : inR n lo hi = false := by simp [inR]; omega
theorem inR_e {n lo hi : Int} (h : inR n lo hi = true) : lo ≤ n ∧ n ≤ hi := by simpa [inR] using h
theorem inR_n {n lo hi : Int} (h : inR n lo hi = false) : n < lo ∨ hi < n := by simp [inR] at h; omega
/-- a stitch -/
structure St where
  k : Int
  p : Bool
  a : Int
  b : Int
theorem St.ext_ {x y : St} (h1 : x.k = y.k) (h2 : x.p = y.p) (h3 : x.a = y.a) (h4 : x.b = y.b) : x = y := by
  cases x; cases y; simp only at h1 h2 h3 h4; subst h1; subst h2; subst h3; subst h4; rfl
instance : DecidableEq St := fun x y =>
  if h : x.k = y.k ∧ x.p = y.p ∧ x.a = y.a ∧ x.b = y.b then isTrue (St.ext_ h.1 h.2.1 h.2.2.1 h.2.2.2)
  else isFalse (fun e => h (by subst e; exact ⟨rfl, rfl, rfl, rfl⟩))
def st0 : St := ⟨0, false, 0, 0⟩
/-- what is known of a kind -/
def kindB (k : Int) : Bool := inR k 1 10
def fa0 (k : Int) : Int := if k = 3 ∨ k = 4 ∨ k = 5 then 2 else if k = 6 ∨ k = 7 ∨ k = 9 ∨ k = 10 then 1 else 0
def fa1 (k : Int) : Int := if k = 3 ∨ k = 4 ∨ k = 5 then 4 else if k = 6 ∨ k = 7 then 6 else if k = 9 ∨ k = 10 then 200 else 0
def fb0 (k : Int) : Int := if k = 6 ∨ k = 7 then 1 else 0
def fb1 (k : Int) : Int := if k = 6 ∨ k = 7 then 6 else 0
def fsd (k : Int) : Bool := decide (k = 1 ∨ (3 ≤ k ∧ k ≤ 8) ∨ k = 10)
def fus (k : Int) : Int := if k = 1 ∨ k = 5 ∨ k = 8 then 1 else if k = 3 ∨ k = 4 ∨ k = 10 then 2 else if k = 6 ∨ k = 7 then 3 else 0
def fmd (k : Int) : Int := if k = 1 ∨ k = 2 ∨ k = 3 ∨ k = 4 ∨ k = 8 then 1 else if k = 5 ∨ k = 9 then 2 else if k = 6 ∨ k = 7 then 3 else 0
def flt (k : Int) : List UInt8 := if k = 3 then [102] else if k = 4 then [108] else if k = 5 then [109] else if k = 6 then [120] else if k = 7 then [121] else if k = 8 then [115] else if k = 10 then [111] else []
/-- whether a stitch is valid -/
def okSt (s : St) : Bool := kindB s.k && inR s.a (fa0 s.k) (fa1 s.k) && inR s.b (fb0 s.k) (fb1 s.k) && !(s.p && !fsd s.k)
def okE (s : St) : Int := if okSt s then 0 else 8
/-- so many loops -/
def lpV (a b how : Int) : Int := if how = 0 then 0 else if how = 1 then 1 else if how = 2 then a else a + b
def usV (s : St) : Int := lpV s.a s.b (fus s.k)
def mkV (s : St) : Int := lpV s.a s.b (fmd s.k)
def usL (l : List St) : Int := (l.map usV).sum
def mkL (l : List St) : Int := (l.map mkV).sum
def allB (l : List St) : Bool := l.all okSt
def allE (l : List St) : Int := if 200 < l.length then 4 else if allB l then (if 200 < max (usL l) (mkL l) then 4 else 0) else 8
def usG (l : List St) : Int := if allE l = 0 then usL l else 0
def mkG (l : List St) : Int := if allE l = 0 then mkL l else 0
/-- whether a list is greater than the statements consider -/
def greatN (n : Nat) : Bool := (decide (60 < n) && decide (n ≤ 200)) || decide (300 < n)
theorem kind_cases {k : Int} (h : kindB k = true) : k = 1 ∨ k = 2 ∨ k = 3 ∨ k = 4 ∨ k = 5 ∨ k = 6 ∨ k = 7 ∨ k = 8 ∨ k = 9 ∨ k = 10 := by
  have := inR_e h; omega
theorem ok_e {s : St} (h : okSt s = true) : kindB s.k = true ∧ inR s.a (fa0 s.k) (fa1 s.k) = true ∧ inR s.b (fb0 s.k) (fb1 s.k) = true ∧ (s.p && !fsd s.k) = false := by
  simp only [okSt, Bool.and_eq_true, Bool.not_eq_true'] at h
  exact ⟨h.1.1.1, h.1.1.2, h.1.2, h.2⟩
theorem ok_bd {s : St} (h : okSt s = true) : (0 ≤ s.a ∧ s.a ≤ 200 ∧ 0 ≤ s.b ∧ s.b ≤ 6) ∧ (0 ≤ usV s ∧ usV s ≤ 200) ∧ (0 ≤ mkV s ∧ mkV s ≤ 200) ∧ (0 ≤ fus s.k ∧ fus s.k ≤ 3) ∧ (0 ≤ fmd s.k ∧ fmd s.k ≤ 3) := by
  obtain ⟨hk, ha, hb, _⟩ := ok_e h
  have ha := inR_e ha
  have hb := inR_e hb
  unfold usV mkV
  rcases kind_cases hk with e | e | e | e | e | e | e | e | e | e <;> rw [e] at ha hb ⊢ <;> simp [fa0, fa1, fb0, fb1, fus, fmd, lpV] at ha hb ⊢ <;> omega
theorem ok_kind {s : St} (h : okSt s = true) : kindB s.k = true := (ok_e h).1
theorem getSt {l : List St} {k : Nat} (h : k < l.length) : l[k]? = some (l.getD k st0) := by
  rw [List.getD_eq_getElem?_getD, List.getElem?_eq_getElem h]; rfl
theorem takeSt {l : List St} {k : Nat} (h : k < l.length) : l.take (k + 1) = l.take k ++ [l.getD k st0] := by
  rw [List.take_succ_eq_append_getElem h, List.getD_eq_getElem?_getD, List.getElem?_eq_getElem h]; rfl
theorem usL_succ {l : List St} {k : Nat} (h : k < l.length) : usL (l.take (k + 1)) = usL (l.take k) + usV (l.getD k st0) := by
  rw [takeSt h]; simp [usL]
theorem mkL_succ {l : List St} {k : Nat} (h : k < l.length) : mkL (l.take (k + 1)) = mkL (l.take k) + mkV (l.getD k st0) := by
  rw [takeSt h]; simp [mkL]
theorem allB_at {l : List St} (h : allB l = true) {k : Nat} (hk : k < l.length) : okSt (l.getD k st0) = true := by
  rw [allB, List.all_eq_true] at h
  exact h _ (by rw [List.getD_eq_getElem?_getD, List.getElem?_eq_getElem hk]; exact List.getElem_mem _)
theorem allB_bad {l : List St} {n k : Nat} (hl : l.length = n) (hk : k < n) (h : okSt (l.getD k st0) = false) : allB l = false := by
  cases e : allB l
  · rfl
  · have := allB_at e (k := k) (by omega)
    rw [h] at this; cases this
theorem allB_ok {l : List St} {n : Nat} (hl : l.length = n) (h : ∀ j, j < n → okSt (l.getD j st0) = true) : allB l = true := by
  rw [allB, List.all_eq_true]
  intro x hx
  obtain ⟨j, hj, e⟩ := List.getElem_of_mem hx
  have := h j (by omega)
  rwa [List.getD_eq_getElem?_getD, List.getElem?_eq_getElem hj, Option.getD_some, e] at this
theorem sums_bd {l : List St} (h : allB l = true) : ∀ k, k ≤ l.length → (0 ≤ usL (l.take k) ∧ usL (l.take k) ≤ 200 * (k : Int)) ∧ (0 ≤ mkL (l.take k) ∧ mkL (l.take k) ≤ 200 * (k : Int)) := by
  intro k
  induction k with
  | zero => intro _; simp [usL, mkL]
  | succ k ih =>
    intro hk
    have h1 := ih (by omega)
    have h2 := ok_bd (allB_at h (k := k) (by omega))
    rw [usL_succ (by omega), mkL_succ (by omega)]
    omega
theorem allE_many {l : List St} (h : 200 < l.length) : allE l = 4 := by rw [allE, if_pos h]
theorem allE_bad {l : List St} (h : ¬ 200 < l.length) (h2 : allB l = false) : allE l = 8 := by rw [allE, if_neg h, h2]; rfl
theorem allE_much {l : List St} (h : ¬ 200 < l.length) (h2 : allB l = true) (h3 : 200 < max (usL l) (mkL l)) : allE l = 4 := by rw [allE, if_neg h, if_pos h2, if_pos h3]
theorem allE_ok {l : List St} (h : ¬ 200 < l.length) (h2 : allB l = true) (h3 : ¬ 200 < max (usL l) (mkL l)) : allE l = 0 := by rw [allE, if_neg h, if_pos h2, if_neg h3]
theorem allE_e {l : List St} (h : allE l = 0) : l.length ≤ 200 ∧ allB l = true ∧ usL l ≤ 200 ∧ mkL l ≤ 200 := by
  unfold allE at h
  split at h
  · omega
  · split at h
    · split at h
      · omega
      · rename_i h1 h2 h3
        exact ⟨by omega, h2, by omega, by omega⟩
    · omega
theorem st_eq {xs ys : List St} {n : Nat} (hx : xs.length = n) (hy : ys.length = n) (h : ∀ j, j < n → xs.getD j st0 = ys.getD j st0) : xs = ys := by
  apply List.ext_getElem (by omega)
  intro i h1 h2
  have := h i (by omega)
  rwa [List.getD_eq_getElem?_getD, List.getD_eq_getElem?_getD, List.getElem?_eq_getElem h1, List.getElem?_eq_getElem h2] at this
/-- the kinds of all are bytes -/
def Bytes (l : List St) : Prop := ∀ j, j < l.length → 0 ≤ (l.getD j st0).k ∧ (l.getD j st0).k ≤ 255
theorem bytes_of {l : List St} (h : ∀ s ∈ l, 0 ≤ s.k ∧ s.k ≤ 255) : Bytes l := fun j hj => h _ (by rw [List.getD_eq_getElem?_getD, List.getElem?_eq_getElem hj]; exact List.getElem_mem _)
end Go.Proofs.Ytfhecgipfhhchaa
