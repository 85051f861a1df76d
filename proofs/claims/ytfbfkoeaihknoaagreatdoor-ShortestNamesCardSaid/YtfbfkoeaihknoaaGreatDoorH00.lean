/- Stitches in plain Lean: what is valid, what they use and make. -/

namespace Go.Proofs.YtfbfkoeaihknoaaGreatDoor
set_option maxRecDepth 100000
/-- whether a number is in a range -/
def inR (n lo hi : Int) : Bool := decide (lo ≤ n) && decide (n ≤ hi)
theorem inR_t {n lo hi : Int} (h : lo ≤ n) (k : n ≤ hi) : inR n lo hi = true := by simp [inR, h, k]
theorem inR_f {n lo hi : Int} (h : n < lo ∨ hi < n) : inR n lo hi = false := by simp [inR]; omega
theorem inR_e {n lo hi : Int} (h : inR n lo hi = true) : lo ≤ n ∧ n ≤ hi := by simpa [inR] using h
theorem inR_n {n lo hi : Int} (h : inR n lo hi = false) : n < lo ∨ hi < n := by simp [inR] at h; omega
/-- a stitch -/
structure St where
  k : Int
  p : Bool
  a : Int
  b : Int
theorem St.ext_ {x y : St} (h1 : x.k = y.k) (h2 : x.p = y.p) (h3 : x.a = y.a) (h4 : x.b = y.b) : x = y := by
  cases x; cases y; simp only at h1 h2 h3 h4; subst h1; subst h2; subst h3; subst h4; rfl
instance : DecidableEq St := fun x y =>
  if h : x.k = y.k ∧ x.p = y.p ∧ x.a = y.a ∧ x.b = y.b then isTrue (St.ext_ h.1 h.2.1 h.2.2.1 h.2.2.2)
  else isFalse (fun e => h (by subst e; exact ⟨rfl, rfl, rfl, rfl⟩))
def st0 : St := ⟨0, false, 0, 0⟩
/-- what is known of a kind -/
def kindB (k : Int) : Bool := inR k 1 10
def fa0 (k : Int) : Int := if k = 3 ∨ k = 4 ∨ k = 5 then 2 else if k = 6 ∨ k = 7 ∨ k = 9 ∨ k = 10 then 1 else 0
def fa1 (k : Int) : Int := if k = 3 ∨ k = 4 ∨ k = 5 then 4 else if k = 6 ∨ k = 7 then 6 else if k = 9 ∨ k = 10 then 200 else 0
def fb0 (k : Int) : Int := if k = 6 ∨ k = 7 then 1 else 0
def fb1 (k : Int) : Int := if k = 6 ∨ k = 7 then 6 else 0
def fsd (k : Int) : Bool := decide (k = 1 ∨ (3 ≤ k ∧ k ≤ 8) ∨ k = 10)
def fus (k : Int) : Int := if k = 1 ∨ k = 5 ∨ k = 8 then 1 else if k = 3 ∨ k = 4 ∨ k = 10 then 2 else if k = 6 ∨ k = 7 then 3 else 0
def fmd (k : Int) : Int := if k = 1 ∨ k = 2 ∨ k = 3 ∨ k = 4 ∨ k = 8 then 1 else if k = 5 ∨ k = 9 then 2 else if k = 6 ∨ k = 7 then 3 else 0
def flt (k : Int) : List UInt8 := if k = 3 then [102] else if k = 4 then [108] else if k = 5 then [109] else if k = 6 then [120] else if k = 7 then [121] else if k = 8 then [115] else if k = 10 then [111] else []
/-- whether a stitch is valid -/
def okSt (s : St) : Bool := kindB s.k && inR s.a (fa0 s.k) (fa1 s.k) && inR s.b (fb0 s.k) (fb1 s.k) && !(s.p && !fsd s.k)
def okE (s : St) : Int := if okSt s then 0 else 8
/-- so many loops -/
def lpV (a b how : Int) : Int := if how = 0 then 0 else if how = 1 then 1 else if how = 2 then a else a + b
def usV (s : St) : Int := lpV s.a s.b (fus s.k)
def mkV (s : St) : Int := lpV s.a s.b (fmd s.k)
def usL (l : List St) : Int := (l.map usV).sum
def mkL (l : List St) : Int := (l.map mkV).sum
def allB (l : List St) : Bool := l.all okSt
def allE (l : List St) : Int := if 200 < l.length then 4 else if allB l then (if 200 < max (usL l) (mkL l) then 4 else 0) else 8
def usG (l : List St) : Int := if allE l = 0 then usL l else 0
def mkG (l : List St) : Int := if allE l = 0 then mkL l else 0
/-- whether a list is greater than the statements consider -/
def greatN (n : Nat) : Bool := (decide (60 < n) && decide (n ≤ 200)) || decide (300 < n)
theorem kind_cases {k : Int} (h : kindB k = true) : k = 1 ∨ k = 2 ∨ k = 3 ∨ k = 4 ∨ k = 5 ∨ k = 6 ∨ k = 7 ∨ k = 8 ∨ k = 9 ∨ k = 10 := by
  have := inR_e h; omega
theorem ok_e {s : St} (h : okSt s = true) : kindB s.k = true ∧ inR s.a (fa0 s.k) (fa1 s.k) = true ∧ inR s.b (fb0 s.k) (fb1 s.k) = true ∧ (s.p && !fsd s.k) = false := by
  simp only [okSt, Bool.and_eq_true, Bool.not_eq_true'] at h
  exact ⟨h.1.1.1, h.1.1.2, h.1.2, h.2⟩
theorem ok_bd {s : St} (h : okSt s = true) : (0 ≤ s.a ∧ s.a ≤ 200 ∧ 0 ≤ s.b ∧ s.b ≤ 6) ∧ (0 ≤ usV s ∧ usV s ≤ 200) ∧ (0 ≤ mkV s ∧ mkV s ≤ 200) ∧ (0 ≤ fus s.k ∧ fus s.k ≤ 3) ∧ (0 ≤ fmd s.k ∧ fmd s.k ≤ 3) := by
  obtain ⟨hk, ha, hb, _⟩ := ok_e h
  have ha := inR_e ha
  have hb := inR_e hb
  unfold usV mkV
  rcases kind_cases hk with e | e | e | e | e | e | e | e | e | e <;> rw [e] at ha hb ⊢ <;> simp [fa0, fa1, fb0, fb1, fus, fmd, lpV] at ha hb ⊢ <;> omega
theorem ok_kind {s : St} (h : okSt s = true) : kindB s.k = true := (ok_e h).1
theorem getSt {l : List St} {k : Nat} (h : k < l.length) : l[k]? = some (l.getD k st0) := by
  rw [List.getD_eq_getElem?_getD, List.getElem?_eq_getElem h]; rfl
theorem takeSt {l : List St} {k : Nat} (h : k < l.length) : l.take (k + 1) = l.take k ++ [l.getD k st0] := by
  rw [List.take_succ_eq_append_getElem h, List.getD_eq_getElem?_getD, List.getElem?_eq_getElem h]; rfl
theorem usL_succ {l : List St} {k : Nat} (h : k < l.length) : usL (l.take (k + 1)) = usL (l.take k) + usV (l.getD k st0) := by
  rw [takeSt h]; simp [usL]
theorem mkL_succ {l : List St} {k : Nat} (h : k < l.length) : mkL (l.take (k + 1)) = mkL (l.take k) + mkV (l.getD k st0) := by
  rw [takeSt h]; simp [mkL]
theorem allB_at {l : List St} (h : allB l = true) {k : Nat} (hk : k < l.length) : okSt (l.getD k st0) = true := by
  rw [allB, List.all_eq_true] at h
  exact h _ (by rw [List.getD_eq_getElem?_getD, List.getElem?_eq_getElem hk]; exact List.getElem_mem _)
theorem allB_bad {l : List St} {n k : Nat} (hl : l.length = n) (hk : k < n) (h : okSt (l.getD k st0) = false) : allB l = false := by
  cases e : allB l
  · rfl
  · have := allB_at e (k := k) (by omega)
    rw [h] at this; cases this
theorem allB_ok {l : List St} {n : Nat} (hl : l.length = n) (h : ∀ j, j < n → okSt (l.getD j st0) = true) : allB l = true := by
  rw [allB, List.all_eq_true]
  intro x hx
  obtain ⟨j, hj, e⟩ := List.getElem_of_mem hx
  have := h j (by omega)
  rwa [List.getD_eq_getElem?_getD, List.getElem?_eq_getElem hj, Option.getD_some, e] at this
theorem sums_bd {l : List St} (h : allB l = true) : ∀ k, k ≤ l.length → (0 ≤ usL (l.take k) ∧ usL (l.take k) ≤ 200 * (k : Int)) ∧ (0 ≤ mkL (l.take k) ∧ mkL (l.take k) ≤ 200 * (k : Int)) := by
  intro k
  induction k with
  | zero => intro _; simp [usL, mkL]
  | succ k ih =>
    intro hk
    have h1 := ih (by omega)
    have h2 := ok_bd (allB_at h (k := k) (by omega))
    rw [usL_succ (by omega), mkL_succ (by omega)]
    omega
theorem allE_many {l : List St} (h : 200 < l.length) : allE l = 4 := by rw [allE, if_pos h]
theorem allE_bad {l : List St} (h : ¬ 200 < l.length) (h2 : allB l = false) : allE l = 8 := by rw [allE, if_neg h, h2]; rfl
theorem allE_much {l : List St} (h : ¬ 200 < l.length) (h2 : allB l = true) (h3 : 200 < max (usL l) (mkL l)) : allE l = 4 := by rw [allE, if_neg h, if_pos h2, if_pos h3]
theorem allE_ok {l : List St} (h : ¬ 200 < l.length) (h2 : allB l = true) (h3 : ¬ 200 < max (usL l) (mkL l)) : allE l = 0 := by rw [allE, if_neg h, if_pos h2, if_neg h3]
theorem allE_e {l : List St} (h : allE l = 0) : l.length ≤ 200 ∧ allB l = true ∧ usL l ≤ 200 ∧ mkL l ≤ 200 := by
  unfold allE at h
  split at h
  · omega
  · split at h
    · split at h
      · omega
      · rename_i h1 h2 h3
        exact ⟨by omega, h2, by omega, by omega⟩
    · omega
theorem st_eq {xs ys : List St} {n : Nat} (hx : xs.length = n) (hy : ys.length = n) (h : ∀ j, j < n → xs.getD j st0 = ys.getD j st0) : xs = ys := by
  apply List.ext_getElem (by omega)
  intro i h1 h2
  have := h i (by omega)
  rwa [List.getD_eq_getElem?_getD, List.getD_eq_getElem?_getD, List.getElem?_eq_getElem h1, List.getElem?_eq_getElem h2] at this
/-- the kinds of all are bytes -/
def Bytes (l : List St) : Prop := ∀ j, j < l.length → 0 ≤ (l.getD j st0).k ∧ (l.getD j st0).k ≤ 255
theorem bytes_of {l : List St} (h : ∀ s ∈ l, 0 ≤ s.k ∧ s.k ≤ 255) : Bytes l := fun j hj => h _ (by rw [List.getD_eq_getElem?_getD, List.getElem?_eq_getElem hj]; exact List.getElem_mem _)
end Go.Proofs.YtfbfkoeaihknoaaGreatDoor
/- Cells with repeats in plain Lean: terms, their sizes, and the shortest list. -/
namespace Go.Proofs.YtfbfkoeaihknoaaGreatDoor
set_option maxRecDepth 100000
/-- a list of terms: how often, the cell, the group, and the terms behind -/
inductive Tms where
  | nil : Tms
  | cons (n : Int) (c : St) (g : Tms) (r : Tms) : Tms
def Tms.app : Tms → Tms → Tms
  | .nil, t => t
  | .cons n c g r, t => .cons n c g (r.app t)
/-- how many terms a list has itself -/
def Tms.cnt : Tms → Nat
  | .nil => 0
  | .cons _ _ _ r => r.cnt + 1
/-- how many terms in all -/
def Tms.size : Tms → Nat
  | .nil => 0
  | .cons _ _ g r => 1 + g.size + r.size
def Tms.depth : Tms → Nat
  | .nil => 0
  | .cons _ _ g r => max (g.depth + 1) r.depth
/-- so many times -/
def rep : Nat → List St → List St
  | 0, _ => []
  | n + 1, l => l ++ rep n l
def Tms.cells : Tms → List St
  | .nil => []
  | .cons n c .nil r => List.replicate n.toNat c ++ r.cells
  | .cons n _ g r => rep n.toNat g.cells ++ r.cells
/-- each term stands at least once -/
def Tms.pos : Tms → Prop
  | .nil => True
  | .cons n _ g r => 1 ≤ n ∧ g.pos ∧ r.pos
theorem cells_grp (n : Int) (c : St) (g r : Tms) (h : g ≠ .nil) : (Tms.cons n c g r).cells = rep n.toNat g.cells ++ r.cells := by
  cases g with
  | nil => exact absurd rfl h
  | cons => rfl
theorem cells_one (n : Int) (c : St) (r : Tms) : (Tms.cons n c .nil r).cells = List.replicate n.toNat c ++ r.cells := rfl
theorem app_cells : ∀ (a b : Tms), (a.app b).cells = a.cells ++ b.cells := by
  intro a
  induction a with
  | nil => intro b; rfl
  | cons n c g r _ ih2 =>
    intro b
    rw [Tms.app]
    by_cases h : g = .nil
    · subst h; rw [cells_one, cells_one, ih2, List.append_assoc]
    · rw [cells_grp _ _ _ _ h, cells_grp _ _ _ _ h, ih2, List.append_assoc]
theorem app_size : ∀ (a b : Tms), (a.app b).size = a.size + b.size := by
  intro a
  induction a with
  | nil => intro b; simp [Tms.app, Tms.size]
  | cons n c g r _ ih2 => intro b; rw [Tms.app, Tms.size, Tms.size, ih2]; omega
theorem app_pos : ∀ (a b : Tms), a.pos → b.pos → (a.app b).pos := by
  intro a
  induction a with
  | nil => intro b _ h; exact h
  | cons n c g r _ ih2 => intro b h k; exact ⟨h.1, h.2.1, ih2 b h.2.2 k⟩
theorem app_depth : ∀ (a b : Tms), (a.app b).depth = max a.depth b.depth := by
  intro a
  induction a with
  | nil => intro b; simp [Tms.app, Tms.depth]
  | cons n c g r _ ih2 => intro b; rw [Tms.app, Tms.depth, Tms.depth, ih2]; omega
theorem rep_len (n : Nat) (l : List St) : (rep n l).length = n * l.length := by
  induction n with
  | zero => simp [rep]
  | succ n ih => rw [rep, List.length_append, ih, Nat.add_mul, Nat.one_mul, Nat.add_comm]
theorem size_pos {t : Tms} (h : t ≠ .nil) : 0 < t.size := by
  cases t with
  | nil => exact absurd rfl h
  | cons => simp [Tms.size]; omega
theorem cells_pos : ∀ {t : Tms}, t.pos → t ≠ .nil → 0 < t.cells.length := by
  intro t
  induction t with
  | nil => intro _ h; exact absurd rfl h
  | cons n c g r ih1 _ =>
    intro hp _
    by_cases h : g = .nil
    · subst h
      rw [cells_one, List.length_append, List.length_replicate]
      have := hp.1; omega
    · rw [cells_grp _ _ _ _ h, List.length_append, rep_len]
      have h1 := ih1 hp.2.1 h
      have h2 : 0 < n.toNat := by have := hp.1; omega
      have := Nat.mul_pos h2 h1
      omega
/-- whether cells have a period -/
def perB (l : List St) (p : Nat) : Bool := decide (l.length % p = 0) && decide (l.drop p = l.take (l.length - p))
/-- how the shortest list is made: its size, a period, and a place where it is divided -/
structure Chc where
  size : Nat
  period : Nat
  part : Nat
def perStep (f : List St → Nat) (l : List St) (c : Chc) (p : Nat) : Chc := if 2 ≤ p ∧ perB l p = true ∧ 1 + f (l.take p) < c.size then ⟨1 + f (l.take p), p, 0⟩ else c
def partStep (f : List St → Nat) (l : List St) (c : Chc) (k : Nat) : Chc := if 1 ≤ k ∧ f (l.take k) + f (l.drop k) < c.size then ⟨f (l.take k) + f (l.drop k), 0, k⟩ else c
def chG (f : List St → Nat) (l : List St) : Chc :=
  if perB l 1 = true then ⟨1, 0, 0⟩ else (List.range l.length).reverse.foldl (partStep f l) ((List.range l.length).foldl (perStep f l) ⟨l.length + 1, 0, 0⟩)
/-- the choice for some cells -/
def chF : Nat → List St → Chc
  | 0, _ => ⟨0, 0, 0⟩
  | f + 1, l => chG (fun x => (chF f x).size) l
def szF (l : List St) : Nat := (chF l.length l).size
theorem foldl_le {α : Type} (step : Chc → α → Chc) (h : ∀ c x, (step c x).size ≤ c.size) (l : List α) : ∀ c, (l.foldl step c).size ≤ c.size := by
  induction l with
  | nil => intro c; exact Nat.le_refl _
  | cons x l ih => intro c; exact Nat.le_trans (ih _) (h c x)
theorem foldl_le_at {α : Type} (step : Chc → α → Chc) (h : ∀ c x, (step c x).size ≤ c.size) {l : List α} {x : α} {m : Nat} (hx : x ∈ l) (hm : ∀ c, (step c x).size ≤ m) : ∀ c, (l.foldl step c).size ≤ m := by
  induction l with
  | nil => cases hx
  | cons y l ih =>
    intro c
    rcases List.mem_cons.1 hx with rfl | hx
    · exact Nat.le_trans (foldl_le step h l _) (hm c)
    · exact ih hx _
theorem per_le (f : List St → Nat) (l : List St) (c : Chc) (p : Nat) : (perStep f l c p).size ≤ c.size := by
  unfold perStep; split
  · rename_i h; exact Nat.le_of_lt h.2.2
  · exact Nat.le_refl _
theorem part_le (f : List St → Nat) (l : List St) (c : Chc) (k : Nat) : (partStep f l c k).size ≤ c.size := by
  unfold partStep; split
  · rename_i h; exact Nat.le_of_lt h.2
  · exact Nat.le_refl _
/-- the choice asks shorter cells alone -/
theorem foldl_congr {α : Type} {s t : Chc → α → Chc} {l : List α} (h : ∀ x ∈ l, ∀ c, s c x = t c x) : ∀ c, l.foldl s c = l.foldl t c := by
  induction l with
  | nil => intro c; rfl
  | cons x l ih => intro c; rw [List.foldl_cons, List.foldl_cons, h x (by simp), ih (fun y hy => h y (by simp [hy]))]
theorem ne_len {l : List St} (h : l ≠ []) : 0 < l.length := by
  cases l with
  | nil => exact absurd rfl h
  | cons x l => simp
theorem len_ne {l : List St} (h : 0 < l.length) : l ≠ [] := by rintro rfl; simp at h
theorem chG_congr {f g : List St → Nat} {l : List St} (hl : l ≠ []) (h : ∀ x : List St, x ≠ [] → x.length < l.length → f x = g x) : chG f l = chG g l := by
  have hl := ne_len hl
  unfold chG
  split
  · rfl
  · have e1 : (List.range l.length).foldl (perStep f l) ⟨l.length + 1, 0, 0⟩ = (List.range l.length).foldl (perStep g l) ⟨l.length + 1, 0, 0⟩ :=
      foldl_congr (fun p hp c => by
        have := List.mem_range.1 hp
        unfold perStep
        by_cases h1 : 2 ≤ p
        · rw [h (l.take p) (len_ne (by rw [List.length_take]; omega)) (by rw [List.length_take]; omega)]
        · rw [if_neg (fun e => h1 e.1), if_neg (fun e => h1 e.1)]) _
    rw [e1]
    exact foldl_congr (fun k hk c => by
      have hk := List.mem_range.1 (List.mem_reverse.1 hk)
      unfold partStep
      by_cases h1 : 1 ≤ k
      · rw [h (l.take k) (len_ne (by rw [List.length_take]; omega)) (by rw [List.length_take]; omega), h (l.drop k) (len_ne (by rw [List.length_drop]; omega)) (by rw [List.length_drop]; omega)]
      · rw [if_neg (fun e => h1 e.1), if_neg (fun e => h1 e.1)]) _
theorem chF_fuel : ∀ (f : Nat) (l : List St) (f' : Nat), l ≠ [] → l.length ≤ f → l.length ≤ f' → chF f l = chF f' l := by
  intro f
  induction f with
  | zero => intro l f' hne h _; have := ne_len hne; omega
  | succ f ih =>
    intro l f' hne h h'
    have hl := ne_len hne
    obtain ⟨m, rfl⟩ : ∃ m, f' = m + 1 := ⟨f' - 1, by omega⟩
    rw [chF, chF]
    exact chG_congr hne (fun x hx hlt => by rw [ih x m hx (by omega) (by omega)])
/-- the choice for some cells, without a limit -/
def ch (l : List St) : Chc := chF l.length l
theorem ch_eq {l : List St} (h : l ≠ []) : ch l = chG (fun x => (ch x).size) l := by
  have hl := ne_len h
  obtain ⟨m, hm⟩ : ∃ m, l.length = m + 1 := ⟨l.length - 1, by omega⟩
  rw [ch, hm, chF]
  exact chG_congr h (fun x hx hlt => by rw [ch, chF_fuel m x x.length hx (by omega) (Nat.le_refl _)])
theorem ch_size_all {l : List St} (h : l ≠ []) (hp : perB l 1 = true) : ch l = ⟨1, 0, 0⟩ := by rw [ch_eq h, chG, if_pos hp]
theorem ch_per {l : List St} {p : Nat} (h : l ≠ []) (h2 : 2 ≤ p) (hp : p < l.length) (hb : perB l p = true) : (ch l).size ≤ 1 + (ch (l.take p)).size := by
  rw [ch_eq h, chG]
  split
  · simp only; omega
  · refine Nat.le_trans (foldl_le _ (part_le _ l) _ _) (foldl_le_at _ (per_le _ l) (List.mem_range.2 hp) (fun c => ?_) _)
    unfold perStep
    split
    · exact Nat.le_refl _
    · rename_i hn
      have : ¬ 1 + (ch (l.take p)).size < c.size := fun e => hn ⟨h2, hb, e⟩
      omega
theorem ch_part {l : List St} {k : Nat} (h1 : 1 ≤ k) (hk : k < l.length) : (ch l).size ≤ (ch (l.take k)).size + (ch (l.drop k)).size ∨ (ch l).size = 1 := by
  have h : l ≠ [] := len_ne (by omega)
  rw [ch_eq h, chG]
  split
  · exact .inr rfl
  · left
    refine foldl_le_at _ (part_le _ l) (List.mem_reverse.2 (List.mem_range.2 hk)) (fun c => ?_) _
    unfold partStep
    split
    · exact Nat.le_refl _
    · rename_i hn
      have : ¬ (ch (l.take k)).size + (ch (l.drop k)).size < c.size := fun e => hn ⟨h1, e⟩
      omega
/-- the size of the choice; nothing needs nothing -/
def szC (l : List St) : Nat := if l = [] then 0 else (ch l).size
theorem foldl_ge {α : Type} {Q : Chc → Prop} (step : Chc → α → Chc) {l : List α} (h : ∀ x ∈ l, ∀ c, Q c → Q (step c x)) : ∀ c, Q c → Q (l.foldl step c) := by
  induction l with
  | nil => intro c hc; exact hc
  | cons x l ih => intro c hc; exact ih (fun y hy => h y (by simp [hy])) _ (h x (by simp) c hc)
/-- how a choice came about -/
def Made (l : List St) (c : Chc) : Prop :=
  (c = ⟨1, 0, 0⟩ ∧ perB l 1 = true) ∨ (2 ≤ c.period ∧ c.period < l.length ∧ c.part = 0 ∧ perB l c.period = true ∧ c.size = 1 + (ch (l.take c.period)).size) ∨
  (c.period = 0 ∧ 1 ≤ c.part ∧ c.part < l.length ∧ c.size = (ch (l.take c.part)).size + (ch (l.drop c.part)).size) ∨ c = ⟨l.length + 1, 0, 0⟩
theorem ch_made0 {l : List St} (h : l ≠ []) : Made l (ch l) := by
  rw [ch_eq h, chG]
  split
  · rename_i hp; exact .inl ⟨rfl, hp⟩
  · refine foldl_ge (Q := Made l) _ (fun k hk c hc => ?_) _ (foldl_ge (Q := Made l) _ (fun p hp c hc => ?_) _ (.inr (.inr (.inr rfl))))
    · have hk := List.mem_range.1 (List.mem_reverse.1 hk)
      unfold partStep
      split
      · rename_i hh; exact .inr (.inr (.inl ⟨rfl, hh.1, hk, rfl⟩))
      · exact hc
    · have hp := List.mem_range.1 hp
      unfold perStep
      split
      · rename_i hh; exact .inr (.inl ⟨hh.1, hp, rfl, hh.2.1, rfl⟩)
      · exact hc
theorem per_one {x : St} : perB [x] 1 = true := by simp [perB]
theorem ch_le {l : List St} : ∀ n, l.length = n → l ≠ [] → 1 ≤ (ch l).size ∧ (ch l).size ≤ l.length := by
  intro n
  induction n using Nat.strongRecOn generalizing l with
  | ind n ih =>
    intro hn hne
    have hl := ne_len hne
    constructor
    · rcases ch_made0 hne with ⟨h, _⟩ | ⟨_, _, _, _, h⟩ | ⟨_, h1, h2, h⟩ | h
      · rw [h]; exact Nat.le_refl _
      · rw [h]; omega
      · have := ih (l.take (ch l).part).length (by rw [List.length_take]; omega) rfl (len_ne (by rw [List.length_take]; omega))
        omega
      · rw [h]; simp only; omega
    · by_cases h1 : l.length = 1
      · obtain ⟨x, rfl⟩ : ∃ x, l = [x] := by
          match l, h1 with
          | [x], _ => exact ⟨x, rfl⟩
        rw [ch_size_all hne per_one]; simp
      · have a := ih (l.take 1).length (by rw [List.length_take]; omega) rfl (len_ne (by rw [List.length_take]; omega))
        have b := ih (l.drop 1).length (by rw [List.length_drop]; omega) rfl (len_ne (by rw [List.length_drop]; omega))
        rw [List.length_take] at a
        rw [List.length_drop] at b
        rcases ch_part (l := l) (k := 1) (Nat.le_refl _) (by omega) with h | h <;> omega
/-- how the choice came about, in the end -/
theorem ch_made {l : List St} (h : l ≠ []) : (ch l = ⟨1, 0, 0⟩ ∧ perB l 1 = true) ∨ (2 ≤ (ch l).period ∧ (ch l).period < l.length ∧ (ch l).part = 0 ∧ perB l (ch l).period = true ∧ (ch l).size = 1 + (ch (l.take (ch l).period)).size) ∨
    ((ch l).period = 0 ∧ 1 ≤ (ch l).part ∧ (ch l).part < l.length ∧ (ch l).size = (ch (l.take (ch l).part)).size + (ch (l.drop (ch l).part)).size) := by
  rcases ch_made0 h with h1 | h1 | h1 | h1
  · exact .inl h1
  · exact .inr (.inl h1)
  · exact .inr (.inr h1)
  · have := ch_le l.length rfl h
    rw [h1] at this
    simp only at this
    omega
end Go.Proofs.YtfbfkoeaihknoaaGreatDoor
/- The shortest list in plain Lean: it expands to the cells, and no list is shorter. -/
namespace Go.Proofs.YtfbfkoeaihknoaaGreatDoor
set_option maxRecDepth 100000
theorem perB_e {l : List St} {p : Nat} (h : perB l p = true) : l.length % p = 0 ∧ l.drop p = l.take (l.length - p) := by
  simp only [perB, Bool.and_eq_true, decide_eq_true_eq] at h
  exact h
theorem per_rep {p : Nat} (hp : 0 < p) : ∀ (q : Nat) (l : List St), l.length = q * p → l.drop p = l.take (l.length - p) → l = rep q (l.take p) := by
  intro q
  induction q with
  | zero => intro l h _; rw [Nat.zero_mul] at h; exact List.eq_nil_of_length_eq_zero h
  | succ q ih =>
    intro l h hd
    have hlen : l.length = q * p + p := by rw [h, Nat.add_mul, Nat.one_mul]
    rw [rep]
    rcases Nat.eq_zero_or_pos q with h0 | h0
    · subst h0
      rw [Nat.zero_mul, Nat.zero_add] at hlen
      rw [rep, List.append_nil, List.take_of_length_le (by omega)]
    · have hq : p ≤ q * p := Nat.le_mul_of_pos_left p h0
      have h1 : (l.drop p).length = q * p := by rw [List.length_drop]; omega
      have h2 : (l.drop p).take p = l.take p := by
        rw [hd, List.take_take]; congr 1; omega
      have h3 := ih (l.drop p) h1 (by
        have e : (l.drop p).length - p = q * p - p := by rw [h1]
        rw [e]
        have e2 : l.drop p = l.take (q * p) := by rw [hd, hlen, Nat.add_sub_cancel]
        have e3 : (l.drop p).take (q * p - p) = l.take (q * p - p) := by rw [e2, List.take_take]; congr 1; omega
        rw [e3]
        calc (l.drop p).drop p = (l.take (q * p)).drop p := by rw [e2]
          _ = (l.drop p).take (q * p - p) := by rw [List.drop_take]
          _ = l.take (q * p - p) := e3)
      rw [h2] at h3
      rw [← h3, List.take_append_drop]
theorem per_is {l : List St} {p : Nat} (hp : 0 < p) (h : perB l p = true) : l = rep (l.length / p) (l.take p) := by
  obtain ⟨h1, h2⟩ := perB_e h
  exact per_rep hp _ l (by have := Nat.div_add_mod l.length p; rw [h1, Nat.add_zero, Nat.mul_comm] at this; exact this.symm) h2
theorem rep_one (n : Nat) (x : St) : rep n [x] = List.replicate n x := by
  induction n with
  | zero => rfl
  | succ n ih => rw [rep, ih, List.replicate_succ]; rfl
theorem per_all {l : List St} (hl : l ≠ []) (h : perB l 1 = true) : l = List.replicate l.length (l.getD 0 st0) := by
  have h1 := per_is (by omega) h
  rw [Nat.div_one] at h1
  have h2 : l.take 1 = [l.getD 0 st0] := by
    cases l with
    | nil => exact absurd rfl hl
    | cons x l => rfl
  rw [h2, rep_one] at h1
  exact h1
theorem rep_take (n : Nat) (g : List St) (h : 0 < n) : (rep n g).take g.length = g := by
  cases n with
  | zero => omega
  | succ n => rw [rep, List.take_append_of_le_length (Nat.le_refl _), List.take_of_length_le (Nat.le_refl _)]
theorem rep_snoc (n : Nat) (g : List St) : rep (n + 1) g = rep n g ++ g := by
  induction n with
  | zero => simp [rep]
  | succ n ih =>
    show g ++ rep (n + 1) g = (g ++ rep n g) ++ g
    rw [ih, List.append_assoc]
theorem rep_per (n : Nat) (g : List St) (h : 0 < n) : perB (rep n g) g.length = true := by
  cases n with
  | zero => omega
  | succ n =>
    simp only [perB, Bool.and_eq_true, decide_eq_true_eq]
    refine ⟨by rw [rep_len]; exact Nat.mul_mod_left _ _, ?_⟩
    have e1 : (rep (n + 1) g).drop g.length = rep n g := by rw [rep, List.drop_left]
    have e2 : (rep (n + 1) g).take ((rep (n + 1) g).length - g.length) = rep n g := by
      have e3 : (rep (n + 1) g).length - g.length = (rep n g).length := by rw [rep_len, rep_len, Nat.add_mul, Nat.one_mul, Nat.add_sub_cancel]
      rw [e3, rep_snoc, List.take_left]
    rw [e1, e2]
theorem replicate_per (n : Nat) (x : St) (h : 0 < n) : perB (List.replicate n x) 1 = true := by
  have := rep_per n [x] h
  rwa [rep_one] at this
theorem getD_mem0 {l : List St} (h : l ≠ []) : l.getD 0 st0 ∈ l := by
  cases l with
  | nil => exact absurd rfl h
  | cons x l => simp
/-- the shortest list -/
def mkT : Nat → List St → Tms
  | 0, _ => .nil
  | f + 1, l =>
    if 0 < (ch l).part then (mkT f (l.take (ch l).part)).app (mkT f (l.drop (ch l).part))
    else if 0 < (ch l).period then .cons ((l.length / (ch l).period : Nat) : Int) st0 (mkT f (l.take (ch l).period)) .nil
    else .cons (l.length : Int) (l.getD 0 st0) .nil .nil
/-- each term stands at most so often -/
def Tms.top (m : Int) : Tms → Prop
  | .nil => True
  | .cons n _ g r => n ≤ m ∧ g.top m ∧ r.top m
/-- a group has no cell, and a cell is one of these -/
def Tms.good (q : St → Prop) : Tms → Prop
  | .nil => True
  | .cons _ c .nil r => q c ∧ r.good q
  | .cons _ c g r => c = st0 ∧ g.good q ∧ r.good q
theorem good_one (q : St → Prop) (n : Int) (c : St) (r : Tms) : (Tms.cons n c .nil r).good q = (q c ∧ r.good q) := rfl
theorem good_grp (q : St → Prop) (n : Int) (c : St) (g r : Tms) (h : g ≠ .nil) : (Tms.cons n c g r).good q = (c = st0 ∧ g.good q ∧ r.good q) := by
  cases g with
  | nil => exact absurd rfl h
  | cons => rfl
theorem app_top (m : Int) : ∀ (a b : Tms), a.top m → b.top m → (a.app b).top m := by
  intro a
  induction a with
  | nil => intro b _ h; exact h
  | cons n c g r _ ih2 => intro b h k; exact ⟨h.1, h.2.1, ih2 b h.2.2 k⟩
theorem app_good (q : St → Prop) : ∀ (a b : Tms), a.good q → b.good q → (a.app b).good q := by
  intro a
  induction a with
  | nil => intro b _ h; exact h
  | cons n c g r _ ih2 =>
    intro b h k
    rw [Tms.app]
    by_cases hg : g = .nil
    · subst hg
      rw [good_one] at h ⊢
      exact ⟨h.1, ih2 b h.2 k⟩
    · rw [good_grp _ _ _ _ _ hg] at h ⊢
      exact ⟨h.1, h.2.1, ih2 b h.2.2 k⟩
theorem app_ne {a b : Tms} (h : a ≠ .nil) : a.app b ≠ .nil := by
  cases a with
  | nil => exact absurd rfl h
  | cons => intro e; cases e
/-- what the shortest list is -/
structure IsT (l : List St) (t : Tms) : Prop where
  cells : t.cells = l
  size : t.size = (ch l).size
  pos : t.pos
  ne : t ≠ .nil
  top : t.top l.length
  good : ∀ q : St → Prop, (∀ x ∈ l, q x) → t.good q
  depth : ∀ k, l.length < 2 ^ (k + 1) → t.depth ≤ k + 1
theorem top_mono {m m' : Int} (h : m ≤ m') : ∀ {t : Tms}, t.top m → t.top m' := by
  intro t
  induction t with
  | nil => intro _; trivial
  | cons n c g r ih1 ih2 => intro k; exact ⟨Int.le_trans k.1 h, ih1 k.2.1, ih2 k.2.2⟩
theorem mkT_is : ∀ (f : Nat) (l : List St), l ≠ [] → l.length ≤ f → IsT l (mkT f l) := by
  intro f
  induction f with
  | zero => intro l h1 h2; have := ne_len h1; omega
  | succ f ih =>
    intro l hne hf
    have hl := ne_len hne
    rw [mkT]
    rcases ch_made hne with ⟨h1, h2⟩ | ⟨h1, h2, h3, h4, h5⟩ | ⟨h1, h2, h3, h4⟩
    · rw [h1]
      simp only [Nat.lt_irrefl, if_false]
      refine ⟨?_, by rw [h1]; rfl, ⟨by omega, trivial, trivial⟩, (by intro e; cases e), ⟨Int.le_refl _, trivial, trivial⟩, fun q hq => ⟨hq _ (getD_mem0 hne), trivial⟩, fun k _ => by simp [Tms.depth]⟩
      rw [cells_one]
      simp only [Tms.cells, List.append_nil, Int.toNat_natCast]
      exact (per_all hne h2).symm
    · rw [if_neg (by omega), if_pos (by omega)]
      have hln : (l.take (ch l).period).length = (ch l).period := by rw [List.length_take]; omega
      have it := ih (l.take (ch l).period) (len_ne (by omega)) (by omega)
      have hdiv : 2 * (ch l).period ≤ l.length := by
        have hm := (perB_e h4).1
        have hq : 2 ≤ l.length / (ch l).period := by
          rcases Nat.lt_or_ge (l.length / (ch l).period) 2 with hlt | hge
          · have e := Nat.div_add_mod l.length (ch l).period
            rw [hm, Nat.add_zero] at e
            have : (ch l).period * (l.length / (ch l).period) ≤ (ch l).period * 1 := Nat.mul_le_mul_left _ (by omega)
            omega
          · exact hge
        have := Nat.div_mul_le_self l.length (ch l).period
        have := Nat.mul_le_mul_right (ch l).period hq
        omega
      have hq1 : 1 ≤ l.length / (ch l).period := Nat.div_pos (by omega) (by omega)
      have hq2 : l.length / (ch l).period ≤ l.length := Nat.div_le_self _ _
      refine ⟨?_, ?_, ⟨by omega, it.pos, trivial⟩, (by intro e; cases e), ⟨by omega, top_mono (by omega) it.top, trivial⟩, fun q hq => ?_, fun k hk => ?_⟩
      · rw [cells_grp _ _ _ _ it.ne, it.cells]
        simp only [Tms.cells, List.append_nil, Int.toNat_natCast]
        exact (per_is (by omega) h4).symm
      · rw [Tms.size, it.size, h5]; rfl
      · rw [good_grp _ _ _ _ _ it.ne]
        exact ⟨rfl, it.good q (fun x hx => hq x (List.mem_of_mem_take hx)), trivial⟩
      · rw [Tms.depth]
        simp only [Tms.depth]
        cases k with
        | zero => rw [Nat.zero_add, Nat.pow_one] at hk; omega
        | succ k =>
          have := it.depth k (by rw [Nat.pow_succ] at hk; omega)
          omega
    · rw [if_pos (by omega)]
      have hl1 : (l.take (ch l).part).length = (ch l).part := by rw [List.length_take]; omega
      have hl2 : (l.drop (ch l).part).length = l.length - (ch l).part := by rw [List.length_drop]
      have i1 := ih (l.take (ch l).part) (len_ne (by omega)) (by omega)
      have i2 := ih (l.drop (ch l).part) (len_ne (by omega)) (by omega)
      refine ⟨by rw [app_cells, i1.cells, i2.cells, List.take_append_drop], by rw [app_size, i1.size, i2.size, h4], app_pos _ _ i1.pos i2.pos, app_ne i1.ne, app_top _ _ _ (top_mono (by omega) i1.top) (top_mono (by omega) i2.top),
        fun q hq => app_good _ _ _ (i1.good q (fun x hx => hq x (List.mem_of_mem_take hx))) (i2.good q (fun x hx => hq x (List.mem_of_mem_drop hx))), fun k hk => ?_⟩
      rw [app_depth]
      have := i1.depth k (by omega)
      have := i2.depth k (by omega)
      omega
/-- no list that expands to cells is shorter -/
theorem ch_least : ∀ {t : Tms}, t.pos → t ≠ .nil → (ch t.cells).size ≤ t.size := by
  intro t
  induction t with
  | nil => intro _ h; exact absurd rfl h
  | cons n c g r ih1 ih2 =>
    intro hp _
    have hn : 0 < n.toNat := by have := hp.1; omega
    -- the first term alone
    have h1 : ∃ A : List St, A ≠ [] ∧ (Tms.cons n c g r).cells = A ++ r.cells ∧ (ch A).size ≤ 1 + g.size := by
      by_cases hg : g = .nil
      · subst hg
        refine ⟨List.replicate n.toNat c, len_ne (by simp; omega), rfl, ?_⟩
        rw [ch_size_all (len_ne (by simp; omega)) (replicate_per _ _ hn)]
        simp [Tms.size]
      · have hgp := cells_pos hp.2.1 hg
        have hrl := rep_len n.toNat g.cells
        have hrp : 0 < (rep n.toNat g.cells).length := by rw [hrl]; exact Nat.mul_pos hn hgp
        refine ⟨rep n.toNat g.cells, len_ne hrp, cells_grp _ _ _ _ hg, ?_⟩
        have hi := ih1 hp.2.1 hg
        rcases Nat.lt_or_ge 1 n.toNat with h2 | h2
        · rcases Nat.lt_or_ge 1 g.cells.length with h3 | h3
          · have hlt : g.cells.length < (rep n.toNat g.cells).length := by
              rw [hrl]
              have := Nat.mul_le_mul_right g.cells.length (show 2 ≤ n.toNat by omega)
              omega
            have := ch_per (len_ne hrp) (by omega) hlt (rep_per _ _ hn)
            rw [rep_take _ _ hn] at this
            omega
          · obtain ⟨x, hx⟩ : ∃ x, g.cells = [x] := by
              match hh : g.cells, hgp, h3 with
              | [x], _, _ => exact ⟨x, rfl⟩
            have : perB (rep n.toNat g.cells) 1 = true := by rw [hx, rep_one]; exact replicate_per _ _ hn
            rw [ch_size_all (len_ne hrp) this]
            simp only; omega
        · obtain hn1 : n.toNat = 1 := by omega
          rw [hn1, rep, rep, List.append_nil]
          omega
    obtain ⟨A, hA, hc, hs⟩ := h1
    rw [hc, Tms.size]
    by_cases hr : r = .nil
    · subst hr
      simp only [Tms.cells, List.append_nil, Tms.size]
      omega
    · have hrc := cells_pos hp.2.2 hr
      have hr2 := ih2 hp.2.2 hr
      have hAl := ne_len hA
      rcases ch_part (l := A ++ r.cells) (k := A.length) (by omega) (by rw [List.length_append]; omega) with h | h
      · rw [List.take_left, List.drop_left] at h
        omega
      · rw [h]; omega
/-- the shortest list of some cells, and its size -/
def findT (l : List St) : Tms := if l = [] then .nil else mkT l.length l
theorem find_is {l : List St} (h : l ≠ []) : IsT l (findT l) := by rw [findT, if_neg h]; exact mkT_is _ _ h (Nat.le_refl _)
theorem find_cells (l : List St) : (findT l).cells = l := by
  by_cases h : l = []
  · subst h; rfl
  · exact (find_is h).cells
theorem find_least {t : Tms} (h : t.pos) : (findT t.cells).size ≤ t.size := by
  by_cases ht : t = .nil
  · subst ht; simp [Tms.cells, findT, Tms.size]
  · have hc := len_ne (cells_pos h ht)
    rw [(find_is hc).size]
    exact ch_least h ht
/-- the terms in the opposite order -/
def Tms.rev : Tms → Tms
  | .nil => .nil
  | .cons n c g r => r.rev.app (.cons n c g.rev .nil)
def Tms.mapC (f : St → St) : Tms → Tms
  | .nil => .nil
  | .cons n c g r => .cons n (f c) (g.mapC f) (r.mapC f)
theorem rev_ne {t : Tms} (h : t ≠ .nil) : t.rev ≠ .nil := by
  cases t with
  | nil => exact absurd rfl h
  | cons n c g r =>
    rw [Tms.rev]
    cases r.rev with
    | nil => intro e; cases e
    | cons => intro e; cases e
theorem rev_rep (n : Nat) (l : List St) : (rep n l).reverse = rep n l.reverse := by
  induction n with
  | zero => rfl
  | succ n ih => rw [rep, List.reverse_append, ih, rep_snoc]
theorem rev_facts : ∀ (t : Tms), t.rev.cells = t.cells.reverse ∧ t.rev.size = t.size ∧ (t.pos → t.rev.pos) := by
  intro t
  induction t with
  | nil => exact ⟨rfl, rfl, fun h => h⟩
  | cons n c g r ih1 ih2 =>
    refine ⟨?_, ?_, fun h => app_pos _ _ (ih2.2.2 h.2.2) ⟨h.1, ih1.2.2 h.2.1, trivial⟩⟩
    · rw [Tms.rev, app_cells, ih2.1]
      by_cases hg : g = .nil
      · subst hg
        rw [show Tms.nil.rev = Tms.nil from rfl, cells_one, cells_one, List.reverse_append, List.reverse_replicate]
        simp [Tms.cells]
      · rw [cells_grp _ _ _ _ (rev_ne hg), cells_grp _ _ _ _ hg, ih1.1, List.reverse_append, rev_rep]
        simp [Tms.cells]
    · rw [Tms.rev, app_size, ih2.2.1, Tms.size, Tms.size, ih1.2.1]; simp [Tms.size]; omega
theorem map_ne {f : St → St} {t : Tms} (h : t ≠ .nil) : t.mapC f ≠ .nil := by
  cases t with
  | nil => exact absurd rfl h
  | cons => intro e; cases e
theorem map_rep (f : St → St) (n : Nat) (l : List St) : (rep n l).map f = rep n (l.map f) := by
  induction n with
  | zero => rfl
  | succ n ih => rw [rep, List.map_append, ih, rep]
theorem map_facts (f : St → St) : ∀ (t : Tms), (t.mapC f).cells = t.cells.map f ∧ (t.mapC f).size = t.size ∧ (t.pos → (t.mapC f).pos) := by
  intro t
  induction t with
  | nil => exact ⟨rfl, rfl, fun h => h⟩
  | cons n c g r ih1 ih2 =>
    refine ⟨?_, by rw [Tms.mapC, Tms.size, Tms.size, ih1.2.1, ih2.2.1], fun h => ⟨h.1, ih1.2.2 h.2.1, ih2.2.2 h.2.2⟩⟩
    rw [Tms.mapC]
    by_cases hg : g = .nil
    · subst hg
      rw [show Tms.nil.mapC f = Tms.nil from rfl, cells_one, cells_one, List.map_append, List.map_replicate, ih2.1]
    · rw [cells_grp _ _ _ _ (map_ne hg), cells_grp _ _ _ _ hg, List.map_append, map_rep, ih1.1, ih2.1]
theorem find_pos (l : List St) : (findT l).pos := by
  by_cases h : l = []
  · subst h; trivial
  · exact (find_is h).pos
/-- the laws of sizes -/
theorem find_rev (l : List St) : (findT l.reverse).size = (findT l).size := by
  have h : ∀ l : List St, (findT l.reverse).size ≤ (findT l).size := fun l => by
    obtain ⟨h1, h2, h3⟩ := rev_facts (findT l)
    have := find_least (h3 (find_pos l))
    rwa [h1, find_cells, h2] at this
  have h1 := h l
  have h2 := h l.reverse
  rw [List.reverse_reverse] at h2
  omega
theorem find_map {f : St → St} (hf : ∀ x, f (f x) = x) (l : List St) : (findT (l.map f)).size = (findT l).size := by
  have h : ∀ l : List St, (findT (l.map f)).size ≤ (findT l).size := fun l => by
    obtain ⟨h1, h2, h3⟩ := map_facts f (findT l)
    have := find_least (h3 (find_pos l))
    rwa [h1, find_cells, h2] at this
  have h1 := h l
  have h2 := h (l.map f)
  rw [List.map_map, show f ∘ f = id from funext hf, List.map_id] at h2
  omega
theorem find_app (a b : List St) : (findT (a ++ b)).size ≤ (findT a).size + (findT b).size := by
  have := find_least (app_pos _ _ (find_pos a) (find_pos b))
  rwa [app_cells, find_cells, find_cells, app_size] at this
theorem find_rep (n : Nat) (a : List St) (h : 1 ≤ n) : (findT (rep n a)).size ≤ (findT a).size + 1 := by
  by_cases ha : a = []
  · subst ha
    have : ∀ n, rep n ([] : List St) = [] := fun n => by induction n with
      | zero => rfl
      | succ n ih => rw [rep, ih]; rfl
    rw [this]; omega
  · have := find_least (t := .cons (n : Int) st0 (findT a) .nil) ⟨by omega, find_pos a, trivial⟩
    rw [cells_grp _ _ _ _ (find_is ha).ne, find_cells] at this
    simp only [Tms.cells, List.append_nil, Int.toNat_natCast, Tms.size] at this
    omega
theorem find_len (a : List St) : (findT a).size ≤ a.length := by
  by_cases h : a = []
  · subst h; simp [findT, Tms.size]
  · rw [(find_is h).size]; exact (ch_le a.length rfl h).2
end Go.Proofs.YtfbfkoeaihknoaaGreatDoor
/- What Check, Size and Expand of terms say, in plain Lean. -/
namespace Go.Proofs.YtfbfkoeaihknoaaGreatDoor
set_option maxRecDepth 100000
/-- the size of a list, at most one more than the limit -/
def szM (t : Tms) : Int := min (t.size : Int) 201
/-- whether all terms are valid -/
def fineT : Tms → Bool
  | .nil => true
  | .cons n c .nil r => inR n 1 200 && okSt c && fineT r
  | .cons n c g r => inR n 1 200 && decide (c = st0) && fineT g && fineT r
theorem fine_one (n : Int) (c : St) (r : Tms) : fineT (.cons n c .nil r) = (inR n 1 200 && okSt c && fineT r) := rfl
theorem fine_grp (n : Int) (c : St) (g r : Tms) (h : g ≠ .nil) : fineT (.cons n c g r) = (inR n 1 200 && decide (c = st0) && fineT g && fineT r) := by
  cases g with
  | nil => exact absurd rfl h
  | cons => rfl
/-- the number of cells behind a number of cells, at most one more than the limit -/
def lenT : Tms → Int → Int
  | .nil, m => m
  | .cons n _ .nil r, m => lenT r (min (m + 1 * n) 201)
  | .cons n _ g r, m => lenT r (min (m + lenT g 0 * n) 201)
theorem len_one (n : Int) (c : St) (r : Tms) (m : Int) : lenT (.cons n c .nil r) m = lenT r (min (m + 1 * n) 201) := rfl
theorem len_grp (n : Int) (c : St) (g r : Tms) (m : Int) (h : g ≠ .nil) : lenT (.cons n c g r) m = lenT r (min (m + lenT g 0 * n) 201) := by
  cases g with
  | nil => exact absurd rfl h
  | cons => rfl
def tchkE (t : Tms) : Int := if 200 < t.size ∨ 8 < t.depth then 4 else if fineT t then (if 200 < lenT t 0 then 4 else 0) else 8
theorem fine_pos : ∀ {t : Tms}, fineT t = true → t.pos := by
  intro t
  induction t with
  | nil => intro _; trivial
  | cons n c g r ih1 ih2 =>
    intro h
    by_cases hg : g = .nil
    · subst hg
      rw [fine_one] at h
      simp only [Bool.and_eq_true] at h
      exact ⟨(inR_e h.1.1).1, trivial, ih2 h.2⟩
    · rw [fine_grp _ _ _ _ hg] at h
      simp only [Bool.and_eq_true] at h
      exact ⟨(inR_e h.1.1.1).1, ih1 h.1.2, ih2 h.2⟩
theorem min_add (a b : Int) : min (min a 201 + b) 201 = min (a + b) 201 ∨ b < 0 := by omega
theorem len_is : ∀ {t : Tms}, t.pos → ∀ m : Int, 0 ≤ m → lenT t (min m 201) = min (m + t.cells.length) 201 := by
  intro t
  induction t with
  | nil => intro _ m _; simp [lenT, Tms.cells]
  | cons n c g r ih1 ih2 =>
    intro hp m hm
    have hn := hp.1
    by_cases hg : g = .nil
    · subst hg
      rw [len_one, cells_one, List.length_append, List.length_replicate]
      have e : min (min m 201 + 1 * n) 201 = min (m + n) 201 := by omega
      rw [e, ih2 hp.2.2 _ (by omega)]
      omega
    · rw [len_grp _ _ _ _ _ hg, cells_grp _ _ _ _ hg, List.length_append, rep_len]
      have h0 := ih1 hp.2.1 0 (Int.le_refl _)
      rw [show min (0 : Int) 201 = 0 by omega, Int.zero_add] at h0
      rw [h0]
      have hc := cells_pos hp.2.1 hg
      generalize hL : g.cells.length = L at *
      have hmul : (((n.toNat * L : Nat)) : Int) = L * n := by rw [Int.natCast_mul, Int.mul_comm]; congr 1; omega
      have e : min (min m 201 + min (L : Int) 201 * n) 201 = min (m + ((n.toNat * L : Nat) : Int)) 201 := by
        rw [hmul]
        rcases Nat.lt_or_ge L 201 with h | h
        · rw [show min (L : Int) 201 = L by omega]
          have : 0 ≤ (L : Int) * n := Int.mul_nonneg (by omega) (by omega)
          omega
        · rw [show min (L : Int) 201 = 201 by omega]
          have h1 : (L : Int) * 1 ≤ L * n := Int.mul_le_mul_of_nonneg_left hn (by omega)
          omega
      rw [e, ih2 hp.2.2 _ (by omega)]
      rw [Int.natCast_add]
      omega
theorem len_zero {t : Tms} (h : t.pos) : lenT t 0 = min (t.cells.length : Int) 201 := by
  have := len_is h 0 (Int.le_refl _)
  rwa [show min (0 : Int) 201 = 0 by omega, Int.zero_add] at this
theorem tchk_e {t : Tms} (h : tchkE t = 0) : t.size ≤ 200 ∧ t.depth ≤ 8 ∧ fineT t = true ∧ t.cells.length ≤ 200 := by
  unfold tchkE at h
  split at h
  · omega
  · rename_i h1
    split at h
    · rename_i h2
      split at h
      · omega
      · rename_i h3
        rw [len_zero (fine_pos h2)] at h3
        exact ⟨by omega, by omega, h2, by omega⟩
    · omega
theorem tchk_i {t : Tms} (h1 : t.size ≤ 200) (h2 : t.depth ≤ 8) (h3 : fineT t = true) (h4 : t.cells.length ≤ 200) : tchkE t = 0 := by
  rw [tchkE, if_neg (by omega), if_pos h3, if_neg (by rw [len_zero (fine_pos h3)]; omega)]
theorem good_fine : ∀ {t : Tms}, t.pos → t.top 200 → t.good (fun x => okSt x = true) → fineT t = true := by
  intro t
  induction t with
  | nil => intro _ _ _; rfl
  | cons n c g r ih1 ih2 =>
    intro hp ht hg0
    by_cases hg : g = .nil
    · subst hg
      rw [good_one] at hg0
      rw [fine_one, inR_t hp.1 ht.1, hg0.1, ih2 hp.2.2 ht.2.2 hg0.2]; rfl
    · rw [good_grp _ _ _ _ _ hg] at hg0
      rw [fine_grp _ _ _ _ hg, inR_t hp.1 ht.1, hg0.1, ih1 hp.2.1 ht.2.1 hg0.2.1, ih2 hp.2.2 ht.2.2 hg0.2.2]; simp
/-- the shortest list of at most 60 valid cells is valid -/
theorem find_chk {l : List St} (h : allB l = true) (hl : l.length ≤ 60) : tchkE (findT l) = 0 := by
  by_cases hne : l = []
  · subst hne; rfl
  · have hi := find_is hne
    have h1 := find_len l
    refine tchk_i (by omega) ?_ (good_fine hi.pos (top_mono (by omega) hi.top) (hi.good _ (fun x hx => List.all_eq_true.1 h x hx))) (by rw [hi.cells]; omega)
    have := hi.depth 5 (by omega)
    omega
/-- a list is not great -/
theorem find_small {l : List St} (h : l ≠ []) (hl : l.length ≤ 60) : (findT l).size ≤ 60 ∧ (findT l).depth ≤ 6 := by
  have hi := find_is h
  have h1 := find_len l
  exact ⟨by omega, by have := hi.depth 5 (by omega); omega⟩
end Go.Proofs.YtfbfkoeaihknoaaGreatDoor
/- The texts of stitches in plain Lean: what is written, and what is read. -/
namespace Go.Proofs.YtfbfkoeaihknoaaGreatDoor
set_option maxRecDepth 100000
/-- a digit -/
def dg (n : Nat) : UInt8 := UInt8.ofNat (48 + n % 10)
def isDg (c : UInt8) : Bool := decide (48 ≤ c) && decide (c ≤ 57)
/-- a number in decimal -/
def decF : Nat → Nat → List UInt8
  | 0, _ => []
  | f + 1, n => if n < 10 then [dg n] else decF f (n / 10) ++ [dg (n % 10)]
def decD (n : Nat) : List UInt8 := decF 20 n
/-- the number of some digits -/
def valD (l : List UInt8) : Nat := l.foldl (fun v c => 10 * v + (c.toNat - 48)) 0
/-- the first digits, at most so many -/
def headD : Nat → List UInt8 → Nat
  | 0, _ => 0
  | _ + 1, [] => 0
  | k + 1, c :: l => if isDg c then headD k l + 1 else 0
/-- reads a number of at most four digits, and what is behind it -/
def numR (l : List UInt8) : Int × List UInt8 := if headD 4 l = 0 then (-1, l) else ((valD (l.take (headD 4 l)) : Int), l.drop (headD 4 l))
/-- the text of a stitch -/
def wordT (s : St) : List UInt8 :=
  if s.k = 2 then [121, 111] else if s.k = 9 then [111, 110] ++ decD s.a.toNat
  else (if s.p then [112] else [107]) ++ flt s.k ++ (if 0 < fa1 s.k then decD s.a.toNat else []) ++ (if 0 < fb1 s.k then 47 :: decD s.b.toNat else [])
/-- equal knits one after the other are written once -/
def grp : List St → List (St × Nat)
  | [] => []
  | s :: l => match grp l with
    | (t, n) :: g => if s.k = 1 ∧ s = t then (t, n + 1) :: g else (s, 1) :: (t, n) :: g
    | [] => [(s, 1)]
def wordG (x : St × Nat) : List UInt8 := wordT x.1 ++ if 1 < x.2 then decD x.2 else []
/-- words with a byte between them -/
def joinB (c : UInt8) : List (List UInt8) → List UInt8
  | [] => []
  | [x] => x
  | x :: y :: l => x ++ c :: joinB c (y :: l)
def textL (l : List St) : List UInt8 := joinB 32 ((grp l).map wordG)
/-- a string cut at a byte -/
def spl (c : UInt8) : List UInt8 → List (List UInt8)
  | [] => [[]]
  | x :: l => if x = c then [] :: spl c l else match spl c l with
    | h :: t => (x :: h) :: t
    | [] => [[x]]
theorem spl_ne (c : UInt8) (l : List UInt8) : spl c l ≠ [] := by
  cases l with
  | nil => simp [spl]
  | cons x l =>
    unfold spl
    split
    · simp
    · split <;> simp
theorem spl_word {c : UInt8} {w : List UInt8} (h : c ∉ w) : spl c w = [w] := by
  induction w with
  | nil => rfl
  | cons x w ih =>
    have h1 : ¬ x = c := fun e => h (by simp [e])
    have h2 := ih (fun e => h (by simp [e]))
    unfold spl
    rw [if_neg h1, h2]
theorem spl_cons {c : UInt8} {w l : List UInt8} (h : c ∉ w) : spl c (w ++ c :: l) = w :: spl c l := by
  induction w with
  | nil => simp [spl]
  | cons x w ih =>
    have h1 : ¬ x = c := fun e => h (by simp [e])
    have h2 := ih (fun e => h (by simp [e]))
    rw [List.cons_append, spl, if_neg h1, h2]
theorem spl_join {c : UInt8} : ∀ {ws : List (List UInt8)}, ws ≠ [] → (∀ w ∈ ws, c ∉ w) → spl c (joinB c ws) = ws := by
  intro ws
  induction ws with
  | nil => intro h; exact absurd rfl h
  | cons x ws ih =>
    intro _ h
    cases ws with
    | nil => exact spl_word (h x (by simp))
    | cons y ws =>
      rw [joinB, spl_cons (h x (by simp)), ih (by simp) (fun w hw => h w (by simp at hw ⊢; exact .inr hw))]
/-- the kind of a letter -/
def kindL (c : UInt8) : Int := if c = 102 then 3 else if c = 108 then 4 else if c = 109 then 5 else if c = 120 then 6 else if c = 121 then 7 else if c = 115 then 8 else if c = 111 then 10 else if c = 63 then 0 else 3
def trimS (l : List UInt8) : List UInt8 := match l with
  | 47 :: t => t
  | l => l
def readK (p : Bool) (c : UInt8) (rest : List UInt8) : St :=
  let k := kindL c
  let a := if 0 < fa1 k then numR rest else (0, rest)
  ⟨k, p, a.1, if 0 < fb1 k then (numR (trimS a.2)).1 else 0⟩
/-- reads a word: the stitch, and how often it stands -/
def readW : List UInt8 → St × Int
  | [] => (st0, 1)
  | c :: rest =>
    if c = 121 ∧ rest = [111] then (⟨2, false, 0, 0⟩, 1)
    else if c = 111 ∧ rest.head? = some 110 then (⟨9, false, (numR rest.tail).1, 0⟩, 1)
    else if ¬ (c = 107 ∨ c = 112) then (st0, 1)
    else match rest with
      | [] => (⟨1, decide (c = 112), 0, 0⟩, 1)
      | d :: r => if 0 ≤ (numR (d :: r)).1 then (⟨1, decide (c = 112), 0, 0⟩, min (max (numR (d :: r)).1 1) 201) else (readK (decide (c = 112)) d r, 1)
/-- the valid stitches, all of them -/
def rng (lo hi : Nat) : List Int := (List.range (hi + 1 - lo)).map (fun i => ((lo + i : Nat) : Int))
def allSt : List St :=
  [false, true].flatMap (fun p => [⟨1, p, 0, 0⟩, ⟨8, p, 0, 0⟩] ++ (rng 2 4).flatMap (fun a => [⟨3, p, a, 0⟩, ⟨4, p, a, 0⟩, ⟨5, p, a, 0⟩])
    ++ (rng 1 6).flatMap (fun a => (rng 1 6).flatMap (fun b => [⟨6, p, a, b⟩, ⟨7, p, a, b⟩])) ++ (rng 1 200).map (fun a => ⟨10, p, a, 0⟩))
  ++ ⟨2, false, 0, 0⟩ :: (rng 1 200).map (fun a => ⟨9, false, a, 0⟩)
theorem mem_rng {lo hi : Nat} {x : Int} (h1 : (lo : Int) ≤ x) (h2 : x ≤ hi) : x ∈ rng lo hi := by
  rw [rng, List.mem_map]
  exact ⟨x.toNat - lo, List.mem_range.2 (by omega), by omega⟩
theorem mem_allSt {s : St} (h : okSt s = true) : s ∈ allSt := by
  obtain ⟨hk, ha, hb, hp⟩ := ok_e h
  have ha := inR_e ha
  have hb := inR_e hb
  obtain ⟨k, p, a, b⟩ := s
  simp only at hk ha hb hp
  have hpm : p ∈ [false, true] := by cases p <;> simp
  unfold allSt
  rw [List.mem_append]
  rcases kind_cases hk with e | e | e | e | e | e | e | e | e | e <;> subst e <;> simp [fa0, fa1, fb0, fb1, fsd] at ha hb hp
  · left
    obtain rfl : a = 0 := by omega
    obtain rfl : b = 0 := by omega
    exact List.mem_flatMap.2 ⟨p, hpm, by simp⟩
  · right
    obtain rfl : a = 0 := by omega
    obtain rfl : b = 0 := by omega
    subst hp
    simp
  · left
    obtain rfl : b = 0 := by omega
    exact List.mem_flatMap.2 ⟨p, hpm, List.mem_append_left _ (List.mem_append_left _ (List.mem_append_right _ (List.mem_flatMap.2 ⟨a, mem_rng (by omega) (by omega), by simp⟩)))⟩
  · left
    obtain rfl : b = 0 := by omega
    exact List.mem_flatMap.2 ⟨p, hpm, List.mem_append_left _ (List.mem_append_left _ (List.mem_append_right _ (List.mem_flatMap.2 ⟨a, mem_rng (by omega) (by omega), by simp⟩)))⟩
  · left
    obtain rfl : b = 0 := by omega
    exact List.mem_flatMap.2 ⟨p, hpm, List.mem_append_left _ (List.mem_append_left _ (List.mem_append_right _ (List.mem_flatMap.2 ⟨a, mem_rng (by omega) (by omega), by simp⟩)))⟩
  · left
    exact List.mem_flatMap.2 ⟨p, hpm, List.mem_append_left _ (List.mem_append_right _ (List.mem_flatMap.2 ⟨a, mem_rng (by omega) (by omega), List.mem_flatMap.2 ⟨b, mem_rng (by omega) (by omega), by simp⟩⟩))⟩
  · left
    exact List.mem_flatMap.2 ⟨p, hpm, List.mem_append_left _ (List.mem_append_right _ (List.mem_flatMap.2 ⟨a, mem_rng (by omega) (by omega), List.mem_flatMap.2 ⟨b, mem_rng (by omega) (by omega), by simp⟩⟩))⟩
  · left
    obtain rfl : a = 0 := by omega
    obtain rfl : b = 0 := by omega
    exact List.mem_flatMap.2 ⟨p, hpm, by simp⟩
  · right
    obtain rfl : b = 0 := by omega
    subst hp
    exact List.mem_cons_of_mem _ (List.mem_map.2 ⟨a, mem_rng (by omega) (by omega), rfl⟩)
  · left
    obtain rfl : b = 0 := by omega
    exact List.mem_flatMap.2 ⟨p, hpm, List.mem_append_right _ (List.mem_map.2 ⟨a, mem_rng (by omega) (by omega), rfl⟩)⟩
/-- what is asked of each valid word -/
def wordOk (s : St) : Bool := decide (readW (wordT s) = (s, 1)) && !(wordT s).contains 32 && !(wordT s).contains 10 && decide ((wordT s).length ≤ 5) && decide (0 < (wordT s).length)
theorem words_ok : allSt.all wordOk = true := by decide +kernel
def runOk (n : Nat) : Bool := [false, true].all (fun p => decide (readW (wordG (⟨1, p, 0, 0⟩, n + 2)) = (⟨1, p, 0, 0⟩, ((n + 2 : Nat) : Int))) && !(wordG (⟨1, p, 0, 0⟩, n + 2)).contains 32 && !(wordG (⟨1, p, 0, 0⟩, n + 2)).contains 10 && decide ((wordG (⟨1, p, 0, 0⟩, n + 2)).length ≤ 5))
theorem runs_ok : (List.range 199).all runOk = true := by decide +kernel
end Go.Proofs.YtfbfkoeaihknoaaGreatDoor
