/- What seam computes, in plain Lean. -/
import Derived.Test.YtepegahgiciegaaGaugeP
namespace Go.Proofs.Ytepegahgiciegaa
/-- whether two numbers are those of edges -/
def edOk (a b : Int) : Bool := inR a 1 1000 && inR b 1 1000
def edE (l : List Int) : Int := if l.all (fun x => inR x 1 1000) then 0 else 2
def edB (a b : Int) : Int := if edOk a b then 0 else 2
theorem edE_one (a : Int) : edE [a] = if inR a 1 1000 then 0 else 2 := by simp [edE]
theorem edE_two (a b : Int) : edE [a, b] = edB a b := by simp [edE, edB, edOk]
theorem edOk_e {a b : Int} (h : edOk a b = true) : 1 ≤ a ∧ a ≤ 1000 ∧ 1 ≤ b ∧ b ≤ 1000 := by
  simp only [edOk, Bool.and_eq_true] at h
  have h1 := inR_e h.1
  have h2 := inR_e h.2
  omega
theorem edE_bad {l : List Int} {n k : Nat} (hl : l.length = n) (hk : k < n) (h : inR (l.getD k 0) 1 1000 = false) : edE l = 2 := by
  rw [edE, if_neg]
  intro ha
  rw [List.all_eq_true] at ha
  have := ha (l.getD k 0) (by rw [List.getD_eq_getElem?_getD, List.getElem?_eq_getElem (by omega)]; exact List.getElem_mem _)
  rw [h] at this
  cases this
theorem edE_ok {l : List Int} {n : Nat} (hl : l.length = n) (h : ∀ j, j < n → inR (l.getD j 0) 1 1000 = true) : edE l = 0 := by
  rw [edE, if_pos]
  rw [List.all_eq_true]
  intro x hx
  obtain ⟨j, hj, e⟩ := List.getElem_of_mem hx
  have := h j (by omega)
  rwa [List.getD_eq_getElem?_getD, List.getElem?_eq_getElem hj, Option.getD_some, e] at this
/-- the stitches that are needed -/
def needG (ok : Bool) (rows m : Int) : Int × Int := if ok then (if inR rows 1 1000 then (if 1000000 < m then (0, 16) else (m, 0)) else (0, 2)) else (0, 8)
theorem needG_bad (rows m : Int) : needG false rows m = (0, 8) := rfl
theorem needG_arg {rows : Int} (h : inR rows 1 1000 = false) (m : Int) : needG true rows m = (0, 2) := by simp [needG, h]
theorem needG_range {rows m : Int} (h : inR rows 1 1000 = true) (k : 1000000 < m) : needG true rows m = (0, 16) := by
  simp only [needG, h, if_true]; rw [if_pos k]
theorem needG_ok {rows m : Int} (h : inR rows 1 1000 = true) (k : ¬ 1000000 < m) : needG true rows m = (m, 0) := by
  simp only [needG, h, if_true]; rw [if_neg k]
/-- the row of a stitch that is picked up -/
def pickV (rows n : Int) (i : Nat) : Int := (2 * i + 1) * rows / (2 * n)
def pickL (rows n : Int) : List Int := if edOk rows n then (List.range n.toNat).map (pickV rows n) else []
/-- the rate -/
def gcdI (rows n : Int) : Int := (Nat.gcd rows.toNat n.toNat : Int)
def rateG (rows n : Int) : Int × Int × Int := if edOk rows n then (n / gcdI rows n, rows / gcdI rows n, 0) else (0, 0, 2)
theorem gcd_step {a b g : Nat} (h : Nat.gcd a b = g) : Nat.gcd b (a % b) = g := by
  rw [Nat.gcd_comm, ← Nat.gcd_rec, Nat.gcd_comm]; exact h
/-- what the search of the reference knows of the numbers below i -/
def DivUp (r n i d : Nat) : Prop := 1 ≤ d ∧ d ∣ r ∧ d ∣ n ∧ (i = 1 ∨ d < i) ∧ ∀ j, 1 ≤ j → j < i → j ∣ r → j ∣ n → j ≤ d
theorem DivUp.start (r n : Nat) : DivUp r n 1 1 := ⟨by omega, Nat.one_dvd _, Nat.one_dvd _, .inl rfl, fun j h1 h2 _ _ => by omega⟩
theorem DivUp.yes {r n i d : Nat} (_h : DivUp r n i d) (hi : 1 ≤ i) (h1 : r % i = 0) (h2 : n % i = 0) : DivUp r n (i + 1) i :=
  ⟨hi, Nat.dvd_of_mod_eq_zero h1, Nat.dvd_of_mod_eq_zero h2, .inr (by omega), fun j _ hj _ _ => by omega⟩
theorem DivUp.no {r n i d : Nat} (h : DivUp r n i d) (hi : 1 ≤ i) (h1 : ¬ (r % i = 0 ∧ n % i = 0)) : DivUp r n (i + 1) d := by
  refine ⟨h.1, h.2.1, h.2.2.1, .inr ?_, fun j j1 j2 hr hn => ?_⟩
  · rcases h.2.2.2.1 with e | e
    · subst e; exact absurd ⟨Nat.mod_one _, Nat.mod_one _⟩ h1
    · omega
  · rcases Nat.lt_or_ge j i with hj | hj
    · exact h.2.2.2.2 j j1 hj hr hn
    · obtain rfl : j = i := by omega
      exact absurd ⟨Nat.mod_eq_zero_of_dvd hr, Nat.mod_eq_zero_of_dvd hn⟩ h1
theorem DivUp.done {r n i d : Nat} (h : DivUp r n i d) (hr : 1 ≤ r) (hn : 1 ≤ n) (hi : r < i ∨ n < i) : d = Nat.gcd r n := by
  have h1 : d ∣ Nat.gcd r n := Nat.dvd_gcd h.2.1 h.2.2.1
  have g0 : 0 < Nat.gcd r n := Nat.gcd_pos_of_pos_left _ hr
  have g1 := Nat.le_of_dvd hr (Nat.gcd_dvd_left r n)
  have g2 := Nat.le_of_dvd hn (Nat.gcd_dvd_right r n)
  have h2 := h.2.2.2.2 (Nat.gcd r n) g0 (by omega) (Nat.gcd_dvd_left r n) (Nat.gcd_dvd_right r n)
  have h3 := Nat.le_of_dvd g0 h1
  omega
/-- a pair of the even seam of two sections -/
def secV (x a y b : Int) (k : Nat) : Int × Int := (x + k * a / max a b, y + k * b / max a b)
def secL (x a y b : Int) : List (Int × Int) := (List.range (max a b).toNat).map (secV x a y b)
def joinL (a b : Int) : List (Int × Int) := if edOk a b then secL 0 a 0 b else []
/-- whether a list is one of marks -/
def mkAt (l : List Int) (n : Int) (k : Nat) : Bool := decide ((0 :: l).getD k 0 < l.getD k 0) && decide (l.getD k 0 < n)
def mkOk (l : List Int) (n : Int) : Bool := (List.range l.length).all (mkAt l n)
theorem mkOk_bad {l : List Int} {a : Int} {n k : Nat} (hl : l.length = n) (hk : k < n) (h : mkAt l a k = false) : mkOk l a = false := by
  cases e : mkOk l a
  · rfl
  · rw [mkOk, List.all_eq_true] at e
    have := e k (List.mem_range.2 (by omega))
    rw [h] at this; cases this
theorem mkOk_ok {l : List Int} {a : Int} {n : Nat} (hl : l.length = n) (h : ∀ j, j < n → mkAt l a j = true) : mkOk l a = true := by
  rw [mkOk, List.all_eq_true]
  intro k hk
  exact h k (by have := List.mem_range.1 hk; omega)
theorem mkOk_e {l : List Int} {a : Int} (h : mkOk l a = true) : ∀ k, k < l.length → (0 :: l).getD k 0 < l.getD k 0 ∧ l.getD k 0 < a := by
  intro k hk
  rw [mkOk, List.all_eq_true] at h
  have := h k (List.mem_range.2 hk)
  simpa [mkAt] using this
theorem mkOk_lo {l : List Int} {a : Int} (h : mkOk l a = true) : ∀ k, k < l.length → 0 ≤ (0 :: l).getD k 0 ∧ (0 :: l).getD k 0 < a := by
  intro k
  induction k with
  | zero => intro hk; have := mkOk_e h 0 hk; simp at this ⊢; omega
  | succ k ih =>
    intro hk
    have h1 := mkOk_e h k (by omega)
    have h2 := ih (by omega)
    simp only [List.getD_cons_succ]
    omega
def mkE (a b : Int) (am bm : List Int) : Int :=
  if edOk a b then (if 50 < am.length ∨ 50 < bm.length then 4 else if mkOk am a && mkOk bm b then (if am.length = bm.length then 0 else 26) else 8) else 2
def mkdS (a b : Int) (am bm : List Int) (i : Nat) : List (Int × Int) :=
  secL ((0 :: am).getD i 0) ((am ++ [a]).getD i 0 - (0 :: am).getD i 0) ((0 :: bm).getD i 0) ((bm ++ [b]).getD i 0 - (0 :: bm).getD i 0)
def mkdN (a b : Int) (am bm : List Int) (n : Nat) : List (Int × Int) := (List.range n).flatMap (mkdS a b am bm)
def mkdL (a b : Int) (am bm : List Int) : List (Int × Int) := if mkE a b am bm = 0 then mkdN a b am bm (am.length + 1) else []
theorem mkdN_succ (a b : Int) (am bm : List Int) (n : Nat) : mkdN a b am bm (n + 1) = mkdN a b am bm n ++ mkdS a b am bm n := by
  simp [mkdN, List.range_succ, List.flatMap_append]
theorem mkE_nil (a b : Int) : mkE a b [] [] = edB a b := by
  unfold mkE edB
  split
  · rw [if_neg (by simp), if_pos (by simp [mkOk]), if_pos rfl]
  · rfl
theorem mkdL_nil (a b : Int) : mkdL a b [] [] = joinL a b := by
  unfold mkdL joinL
  rw [mkE_nil, edB]
  split
  · rename_i h
    rw [if_pos rfl]
    simp [mkdN, mkdS]
  · rw [if_neg (by omega)]
/-- whether a pair may follow another one -/
def stepB (p q : Int × Int) : Bool := decide (q = (p.1 + 1, p.2)) || decide (q = (p.1, p.2 + 1)) || decide (q = (p.1 + 1, p.2 + 1))
def stepAt (l : List (Int × Int)) (i : Nat) : Bool := stepB (l.getD (i - 1) (0, 0)) (l.getD i (0, 0))
def seamB (l : List (Int × Int)) (a b : Int) : Bool :=
  decide (0 < l.length) && decide (l.getD 0 (0, 0) = (0, 0)) && decide (l.getD (l.length - 1) (0, 0) = (a - 1, b - 1)) && (List.range (l.length - 1)).all (fun i => stepAt l (i + 1))
def chkE (l : List (Int × Int)) (a b : Int) : Int := if edOk a b then (if seamB l a b then 0 else 30) else 2
theorem seamB_e {l : List (Int × Int)} {a b : Int} (h : seamB l a b = true) : 0 < l.length ∧ l.getD 0 (0, 0) = (0, 0) ∧ l.getD (l.length - 1) (0, 0) = (a - 1, b - 1) ∧ ∀ i, 1 ≤ i → i < l.length → stepAt l i = true := by
  simp only [seamB, Bool.and_eq_true, decide_eq_true_eq, List.all_eq_true] at h
  refine ⟨h.1.1.1, h.1.1.2, h.1.2, fun i h1 h2 => ?_⟩
  have := h.2 (i - 1) (List.mem_range.2 (by omega))
  rwa [show i - 1 + 1 = i by omega] at this
theorem seamB_i {l : List (Int × Int)} {a b : Int} {n : Nat} (hl : l.length = n) (h0 : 0 < n) (h1 : l.getD 0 (0, 0) = (0, 0)) (h2 : l.getD (n - 1) (0, 0) = (a - 1, b - 1)) (h3 : ∀ i, 1 ≤ i → i < n → stepAt l i = true) : seamB l a b = true := by
  simp only [seamB, Bool.and_eq_true, decide_eq_true_eq, List.all_eq_true]
  subst hl
  exact ⟨⟨⟨h0, h1⟩, h2⟩, fun i hi => h3 (i + 1) (by omega) (by have := List.mem_range.1 hi; omega)⟩
theorem seamB_no {l : List (Int × Int)} {a b : Int} {i : Nat} (h1 : 1 ≤ i) (h2 : i < l.length) (h : stepAt l i = false) : seamB l a b = false := by
  cases e : seamB l a b
  · rfl
  · have := (seamB_e e).2.2.2 i h1 h2
    rw [h] at this; cases this
theorem step_e {p q : Int × Int} (h : stepB p q = true) : p.1 ≤ q.1 ∧ q.1 ≤ p.1 + 1 ∧ p.2 ≤ q.2 ∧ q.2 ≤ p.2 + 1 ∧ (p.1 < q.1 ∨ p.2 < q.2) := by
  simp only [stepB, Bool.or_eq_true, decide_eq_true_eq] at h
  rcases h with (h | h) | h <;> subst h <;> simp <;> omega
theorem step_i {p q : Int × Int} (h : p.1 ≤ q.1 ∧ q.1 ≤ p.1 + 1 ∧ p.2 ≤ q.2 ∧ q.2 ≤ p.2 + 1 ∧ (p.1 < q.1 ∨ p.2 < q.2)) : stepB p q = true := by
  obtain ⟨x, y⟩ := p
  obtain ⟨u, v⟩ := q
  simp only [stepB, Bool.or_eq_true, decide_eq_true_eq, Prod.mk.injEq] at h ⊢
  omega
/-- a seam only goes up, one at a time -/
theorem seam_up {l : List (Int × Int)} {n : Nat} (h0 : l.getD 0 (0, 0) = (0, 0)) (h : ∀ i, 1 ≤ i → i < n → stepAt l i = true) :
    ∀ i, i < n → 0 ≤ (l.getD i (0, 0)).1 ∧ (l.getD i (0, 0)).1 ≤ i ∧ 0 ≤ (l.getD i (0, 0)).2 ∧ (l.getD i (0, 0)).2 ≤ i := by
  intro i
  induction i with
  | zero => intro _; rw [h0]; simp
  | succ i ih =>
    intro hi
    have h1 := ih (by omega)
    have h2 := step_e (h (i + 1) (by omega) hi)
    rw [show i + 1 - 1 = i by omega] at h2
    omega
theorem seam_le {l : List (Int × Int)} {n : Nat} (h : ∀ i, 1 ≤ i → i < n → stepAt l i = true) :
    ∀ d i, i + d < n → (l.getD i (0, 0)).1 ≤ (l.getD (i + d) (0, 0)).1 ∧ (l.getD i (0, 0)).2 ≤ (l.getD (i + d) (0, 0)).2 := by
  intro d
  induction d with
  | zero => intro i _; simp
  | succ d ih =>
    intro i hi
    have h1 := ih i (by omega)
    have h2 := step_e (h (i + d + 1) (by omega) (by omega))
    rw [show i + d + 1 - 1 = i + d by omega] at h2
    rw [show i + (d + 1) = i + d + 1 by omega]
    omega
theorem seam_in {l : List (Int × Int)} {a b : Int} (h : seamB l a b = true) : ∀ i, i < l.length → 0 ≤ (l.getD i (0, 0)).1 ∧ (l.getD i (0, 0)).1 < a ∧ 0 ≤ (l.getD i (0, 0)).2 ∧ (l.getD i (0, 0)).2 < b := by
  intro i hi
  obtain ⟨h0, h1, h2, h3⟩ := seamB_e h
  have hu := seam_up h1 h3 i hi
  have hl := seam_le h3 (l.length - 1 - i) i (by omega)
  rw [show i + (l.length - 1 - i) = l.length - 1 by omega, h2] at hl
  simp only at hl
  omega
/-- in how many pairs a loop is -/
def shX (l : List (Int × Int)) (j : Nat) : Int := (l.countP (fun p => p.1 == (j : Int)) : Int)
def shY (l : List (Int × Int)) (j : Nat) : Int := (l.countP (fun p => p.2 == (j : Int)) : Int)
def shXL (l : List (Int × Int)) (a b : Int) : List Int := if chkE l a b = 0 then (List.range a.toNat).map (shX l) else []
def shYL (l : List (Int × Int)) (a b : Int) : List Int := if chkE l a b = 0 then (List.range b.toNat).map (shY l) else []
theorem take_succ_getD {l : List (Int × Int)} {k : Nat} (h : k < l.length) : l.take (k + 1) = l.take k ++ [l.getD k (0, 0)] := by
  rw [List.take_succ_eq_append_getElem h, List.getD_eq_getElem?_getD, List.getElem?_eq_getElem h]; rfl
theorem shX_succ {l : List (Int × Int)} {k : Nat} (h : k < l.length) (j : Nat) : shX (l.take (k + 1)) j = shX (l.take k) j + if (l.getD k (0, 0)).1 = (j : Int) then 1 else 0 := by
  rw [take_succ_getD h]
  unfold shX
  rw [List.countP_append, List.countP_singleton]
  generalize l.getD k (0, 0) = q
  by_cases e : q.1 = (j : Int) <;> simp [e]
theorem shY_succ {l : List (Int × Int)} {k : Nat} (h : k < l.length) (j : Nat) : shY (l.take (k + 1)) j = shY (l.take k) j + if (l.getD k (0, 0)).2 = (j : Int) then 1 else 0 := by
  rw [take_succ_getD h]
  unfold shY
  rw [List.countP_append, List.countP_singleton]
  generalize l.getD k (0, 0) = q
  by_cases e : q.2 = (j : Int) <;> simp [e]
theorem sh_bd (l : List (Int × Int)) (j : Nat) : 0 ≤ shX l j ∧ shX l j ≤ l.length ∧ 0 ≤ shY l j ∧ shY l j ≤ l.length := by
  unfold shX shY
  have h1 := List.countP_le_length (p := fun p : Int × Int => p.1 == (j : Int)) (l := l)
  have h2 := List.countP_le_length (p := fun p : Int × Int => p.2 == (j : Int)) (l := l)
  omega
theorem ints_eq {xs ys : List Int} {n : Nat} (hx : xs.length = n) (hy : ys.length = n) (h : ∀ j, j < n → xs.getD j 0 = ys.getD j 0) : xs = ys := by
  apply List.ext_getElem (by omega)
  intro i h1 h2
  have := h i (by omega)
  rwa [List.getD_eq_getElem?_getD, List.getD_eq_getElem?_getD, List.getElem?_eq_getElem h1, List.getElem?_eq_getElem h2] at this
theorem prs_eq {xs ys : List (Int × Int)} {n : Nat} (hx : xs.length = n) (hy : ys.length = n) (h : ∀ j, j < n → xs.getD j (0, 0) = ys.getD j (0, 0)) : xs = ys := by
  apply List.ext_getElem (by omega)
  intro i h1 h2
  have := h i (by omega)
  rwa [List.getD_eq_getElem?_getD, List.getD_eq_getElem?_getD, List.getElem?_eq_getElem h1, List.getElem?_eq_getElem h2] at this
end Go.Proofs.Ytepegahgiciegaa
