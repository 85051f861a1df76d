/- Cells with repeats in plain Lean: terms, their sizes, and the shortest list. -/
import Derived.Test.YtgbmeefcnjdjbaaStitchP
namespace Go.Proofs.Ytgbmeefcnjdjbaa
set_option maxRecDepth 100000
/-- a list of terms: how often, the cell, the group, and the terms behind -/
inductive Tms where
  | nil : Tms
  | cons (n : Int) (c : St) (g : Tms) (r : Tms) : Tms
def Tms.app : Tms → Tms → Tms
  | .nil, t => t
  | .cons n c g r, t => .cons n c g (r.app t)
/-- how many terms a list has itself -/
def Tms.cnt : Tms → Nat
  | .nil => 0
  | .cons _ _ _ r => r.cnt + 1
/-- how many terms in all -/
def Tms.size : Tms → Nat
  | .nil => 0
  | .cons _ _ g r => 1 + g.size + r.size
def Tms.depth : Tms → Nat
  | .nil => 0
  | .cons _ _ g r => max (g.depth + 1) r.depth
/-- so many times -/
def rep : Nat → List St → List St
  | 0, _ => []
  | n + 1, l => l ++ rep n l
def Tms.cells : Tms → List St
  | .nil => []
  | .cons n c .nil r => List.replicate n.toNat c ++ r.cells
  | .cons n _ g r => rep n.toNat g.cells ++ r.cells
/-- each term stands at least once -/
def Tms.pos : Tms → Prop
  | .nil => True
  | .cons n _ g r => 1 ≤ n ∧ g.pos ∧ r.pos
theorem cells_grp (n : Int) (c : St) (g r : Tms) (h : g ≠ .nil) : (Tms.cons n c g r).cells = rep n.toNat g.cells ++ r.cells := by
  cases g with
  | nil => exact absurd rfl h
  | cons => rfl
theorem cells_one (n : Int) (c : St) (r : Tms) : (Tms.cons n c .nil r).cells = List.replicate n.toNat c ++ r.cells := rfl
theorem app_cells : ∀ (a b : Tms), (a.app b).cells = a.cells ++ b.cells := by
  intro a
  induction a with
  | nil => intro b; rfl
  | cons n c g r _ ih2 =>
    intro b
    rw [Tms.app]
    by_cases h : g = .nil
    · subst h; rw [cells_one, cells_one, ih2, List.append_assoc]
    · rw [cells_grp _ _ _ _ h, cells_grp _ _ _ _ h, ih2, List.append_assoc]
theorem app_size : ∀ (a b : Tms), (a.app b).size = a.size + b.size := by
  intro a
  induction a with
  | nil => intro b; simp [Tms.app, Tms.size]
  | cons n c g r _ ih2 => intro b; rw [Tms.app, Tms.size, Tms.size, ih2]; omega
theorem app_pos : ∀ (a b : Tms), a.pos → b.pos → (a.app b).pos := by
  intro a
  induction a with
  | nil => intro b _ h; exact h
  | cons n c g r _ ih2 => intro b h k; exact ⟨h.1, h.2.1, ih2 b h.2.2 k⟩
theorem app_depth : ∀ (a b : Tms), (a.app b).depth = max a.depth b.depth := by
  intro a
  induction a with
  | nil => intro b; simp [Tms.app, Tms.depth]
  | cons n c g r _ ih2 => intro b; rw [Tms.app, Tms.depth, Tms.depth, ih2]; omega
theorem rep_len (n : Nat) (l : List St) : (rep n l).length = n * l.length := by
  induction n with
  | zero => simp [rep]
  | succ n ih => rw [rep, List.length_append, ih, Nat.add_mul, Nat.one_mul, Nat.add_comm]
theorem size_pos {t : Tms} (h : t ≠ .nil) : 0 < t.size := by
  cases t with
  | nil => exact absurd rfl h
  | cons => simp [Tms.size]; omega
theorem cells_pos : ∀ {t : Tms}, t.pos → t ≠ .nil → 0 < t.cells.length := by
  intro t
  induction t with
  | nil => intro _ h; exact absurd rfl h
  | cons n c g r ih1 _ =>
    intro hp _
    by_cases h : g = .nil
    · subst h
      rw [cells_one, List.length_append, List.length_replicate]
      have := hp.1; omega
    · rw [cells_grp _ _ _ _ h, List.length_append, rep_len]
      have h1 := ih1 hp.2.1 h
      have h2 : 0 < n.toNat := by have := hp.1; omega
      have := Nat.mul_pos h2 h1
      omega
/-- whether cells have a period -/
def perB (l : List St) (p : Nat) : Bool := decide (l.length % p = 0) && decide (l.drop p = l.take (l.length - p))
/-- how the shortest list is made: its size, a period, and a place where it is divided -/
structure Chc where
  size : Nat
  period : Nat
  part : Nat
def perStep (f : List St → Nat) (l : List St) (c : Chc) (p : Nat) : Chc := if 2 ≤ p ∧ perB l p = true ∧ 1 + f (l.take p) < c.size then ⟨1 + f (l.take p), p, 0⟩ else c
def partStep (f : List St → Nat) (l : List St) (c : Chc) (k : Nat) : Chc := if 1 ≤ k ∧ f (l.take k) + f (l.drop k) < c.size then ⟨f (l.take k) + f (l.drop k), 0, k⟩ else c
def chG (f : List St → Nat) (l : List St) : Chc :=
  if perB l 1 = true then ⟨1, 0, 0⟩ else (List.range l.length).reverse.foldl (partStep f l) ((List.range l.length).foldl (perStep f l) ⟨l.length + 1, 0, 0⟩)
/-- the choice for some cells -/
def chF : Nat → List St → Chc
  | 0, _ => ⟨0, 0, 0⟩
  | f + 1, l => chG (fun x => (chF f x).size) l
def szF (l : List St) : Nat := (chF l.length l).size
theorem foldl_le {α : Type} (step : Chc → α → Chc) (h : ∀ c x, (step c x).size ≤ c.size) (l : List α) : ∀ c, (l.foldl step c).size ≤ c.size := by
  induction l with
  | nil => intro c; exact Nat.le_refl _
  | cons x l ih => intro c; exact Nat.le_trans (ih _) (h c x)
theorem foldl_le_at {α : Type} (step : Chc → α → Chc) (h : ∀ c x, (step c x).size ≤ c.size) {l : List α} {x : α} {m : Nat} (hx : x ∈ l) (hm : ∀ c, (step c x).size ≤ m) : ∀ c, (l.foldl step c).size ≤ m := by
  induction l with
  | nil => cases hx
  | cons y l ih =>
    intro c
    rcases List.mem_cons.1 hx with rfl | hx
    · exact Nat.le_trans (foldl_le step h l _) (hm c)
    · exact ih hx _
theorem per_le (f : List St → Nat) (l : List St) (c : Chc) (p : Nat) : (perStep f l c p).size ≤ c.size := by
  unfold perStep; split
  · rename_i h; exact Nat.le_of_lt h.2.2
  · exact Nat.le_refl _
theorem part_le (f : List St → Nat) (l : List St) (c : Chc) (k : Nat) : (partStep f l c k).size ≤ c.size := by
  unfold partStep; split
  · rename_i h; exact Nat.le_of_lt h.2
  · exact Nat.le_refl _
/-- the choice asks shorter cells alone -/
theorem foldl_congr {α : Type} {s t : Chc → α → Chc} {l : List α} (h : ∀ x ∈ l, ∀ c, s c x = t c x) : ∀ c, l.foldl s c = l.foldl t c := by
  induction l with
  | nil => intro c; rfl
  | cons x l ih => intro c; rw [List.foldl_cons, List.foldl_cons, h x (by simp), ih (fun y hy => h y (by simp [hy]))]
theorem ne_len {l : List St} (h : l ≠ []) : 0 < l.length := by
  cases l with
  | nil => exact absurd rfl h
  | cons x l => simp
theorem len_ne {l : List St} (h : 0 < l.length) : l ≠ [] := by rintro rfl; simp at h
theorem chG_congr {f g : List St → Nat} {l : List St} (hl : l ≠ []) (h : ∀ x : List St, x ≠ [] → x.length < l.length → f x = g x) : chG f l = chG g l := by
  have hl := ne_len hl
  unfold chG
  split
  · rfl
  · have e1 : (List.range l.length).foldl (perStep f l) ⟨l.length + 1, 0, 0⟩ = (List.range l.length).foldl (perStep g l) ⟨l.length + 1, 0, 0⟩ :=
      foldl_congr (fun p hp c => by
        have := List.mem_range.1 hp
        unfold perStep
        by_cases h1 : 2 ≤ p
        · rw [h (l.take p) (len_ne (by rw [List.length_take]; omega)) (by rw [List.length_take]; omega)]
        · rw [if_neg (fun e => h1 e.1), if_neg (fun e => h1 e.1)]) _
    rw [e1]
    exact foldl_congr (fun k hk c => by
      have hk := List.mem_range.1 (List.mem_reverse.1 hk)
      unfold partStep
      by_cases h1 : 1 ≤ k
      · rw [h (l.take k) (len_ne (by rw [List.length_take]; omega)) (by rw [List.length_take]; omega), h (l.drop k) (len_ne (by rw [List.length_drop]; omega)) (by rw [List.length_drop]; omega)]
      · rw [if_neg (fun e => h1 e.1), if_neg (fun e => h1 e.1)]) _
theorem chF_fuel : ∀ (f : Nat) (l : List St) (f' : Nat), l ≠ [] → l.length ≤ f → l.length ≤ f' → chF f l = chF f' l := by
  intro f
  induction f with
  | zero => intro l f' hne h _; have := ne_len hne; omega
  | succ f ih =>
    intro l f' hne h h'
    have hl := ne_len hne
    obtain ⟨m, rfl⟩ : ∃ m, f' = m + 1 := ⟨f' - 1, by omega⟩
    rw [chF, chF]
    exact chG_congr hne (fun x hx hlt => by rw [ih x m hx (by omega) (by omega)])
/-- the choice for some cells, without a limit -/
def ch (l : List St) : Chc := chF l.length l
theorem ch_eq {l : List St} (h : l ≠ []) : ch l = chG (fun x => (ch x).size) l := by
  have hl := ne_len h
  obtain ⟨m, hm⟩ : ∃ m, l.length = m + 1 := ⟨l.length - 1, by omega⟩
  rw [ch, hm, chF]
  exact chG_congr h (fun x hx hlt => by rw [ch, chF_fuel m x x.length hx (by omega) (Nat.le_refl _)])
theorem ch_size_all {l : List St} (h : l ≠ []) (hp : perB l 1 = true) : ch l = ⟨1, 0, 0⟩ := by rw [ch_eq h, chG, if_pos hp]
theorem ch_per {l : List St} {p : Nat} (h : l ≠ []) (h2 : 2 ≤ p) (hp : p < l.length) (hb : perB l p = true) : (ch l).size ≤ 1 + (ch (l.take p)).size := by
  rw [ch_eq h, chG]
  split
  · simp only; omega
  · refine Nat.le_trans (foldl_le _ (part_le _ l) _ _) (foldl_le_at _ (per_le _ l) (List.mem_range.2 hp) (fun c => ?_) _)
    unfold perStep
    split
    · exact Nat.le_refl _
    · rename_i hn
      have : ¬ 1 + (ch (l.take p)).size < c.size := fun e => hn ⟨h2, hb, e⟩
      omega
theorem ch_part {l : List St} {k : Nat} (h1 : 1 ≤ k) (hk : k < l.length) : (ch l).size ≤ (ch (l.take k)).size + (ch (l.drop k)).size ∨ (ch l).size = 1 := by
  have h : l ≠ [] := len_ne (by omega)
  rw [ch_eq h, chG]
  split
  · exact .inr rfl
  · left
    refine foldl_le_at _ (part_le _ l) (List.mem_reverse.2 (List.mem_range.2 hk)) (fun c => ?_) _
    unfold partStep
    split
    · exact Nat.le_refl _
    · rename_i hn
      have : ¬ (ch (l.take k)).size + (ch (l.drop k)).size < c.size := fun e => hn ⟨h1, e⟩
      omega
/-- the size of the choice; nothing needs nothing -/
def szC (l : List St) : Nat := if l = [] then 0 else (ch l).size
theorem foldl_ge {α : Type} {Q : Chc → Prop} (step : Chc → α → Chc) {l : List α} (h : ∀ x ∈ l, ∀ c, Q c → Q (step c x)) : ∀ c, Q c → Q (l.foldl step c) := by
  induction l with
  | nil => intro c hc; exact hc
  | cons x l ih => intro c hc; exact ih (fun y hy => h y (by simp [hy])) _ (h x (by simp) c hc)
/-- how a choice came about -/
def Made (l : List St) (c : Chc) : Prop :=
  (c = ⟨1, 0, 0⟩ ∧ perB l 1 = true) ∨ (2 ≤ c.period ∧ c.period < l.length ∧ c.part = 0 ∧ perB l c.period = true ∧ c.size = 1 + (ch (l.take c.period)).size) ∨
  (c.period = 0 ∧ 1 ≤ c.part ∧ c.part < l.length ∧ c.size = (ch (l.take c.part)).size + (ch (l.drop c.part)).size) ∨ c = ⟨l.length + 1, 0, 0⟩
theorem ch_made0 {l : List St} (h : l ≠ []) : Made l (ch l) := by
  rw [ch_eq h, chG]
  split
  · rename_i hp; exact .inl ⟨rfl, hp⟩
  · refine foldl_ge (Q := Made l) _ (fun k hk c hc => ?_) _ (foldl_ge (Q := Made l) _ (fun p hp c hc => ?_) _ (.inr (.inr (.inr rfl))))
    · have hk := List.mem_range.1 (List.mem_reverse.1 hk)
      unfold partStep
      split
      · rename_i hh; exact .inr (.inr (.inl ⟨rfl, hh.1, hk, rfl⟩))
      · exact hc
    · have hp := List.mem_range.1 hp
      unfold perStep
      split
      · rename_i hh; exact .inr (.inl ⟨hh.1, hp, rfl, hh.2.1, rfl⟩)
      · exact hc
theorem per_one {x : St} : perB [x] 1 = true := by simp [perB]
theorem ch_le {l : List St} : ∀ n, l.length = n → l ≠ [] → 1 ≤ (ch l).size ∧ (ch l).size ≤ l.length := by
  intro n
  induction n using Nat.strongRecOn generalizing l with
  | ind n ih =>
    intro hn hne
    have hl := ne_len hne
    constructor
    · rcases ch_made0 hne with ⟨h, _⟩ | ⟨_, _, _, _, h⟩ | ⟨_, h1, h2, h⟩ | h
      · rw [h]; exact Nat.le_refl _
      · rw [h]; omega
      · have := ih (l.take (ch l).part).length (by rw [List.length_take]; omega) rfl (len_ne (by rw [List.length_take]; omega))
        omega
      · rw [h]; simp only; omega
    · by_cases h1 : l.length = 1
      · obtain ⟨x, rfl⟩ : ∃ x, l = [x] := by
          match l, h1 with
          | [x], _ => exact ⟨x, rfl⟩
        rw [ch_size_all hne per_one]; simp
      · have a := ih (l.take 1).length (by rw [List.length_take]; omega) rfl (len_ne (by rw [List.length_take]; omega))
        have b := ih (l.drop 1).length (by rw [List.length_drop]; omega) rfl (len_ne (by rw [List.length_drop]; omega))
        rw [List.length_take] at a
        rw [List.length_drop] at b
        rcases ch_part (l := l) (k := 1) (Nat.le_refl _) (by omega) with h | h <;> omega
/-- how the choice came about, in the end -/
theorem ch_made {l : List St} (h : l ≠ []) : (ch l = ⟨1, 0, 0⟩ ∧ perB l 1 = true) ∨ (2 ≤ (ch l).period ∧ (ch l).period < l.length ∧ (ch l).part = 0 ∧ perB l (ch l).period = true ∧ (ch l).size = 1 + (ch (l.take (ch l).period)).size) ∨
    ((ch l).period = 0 ∧ 1 ≤ (ch l).part ∧ (ch l).part < l.length ∧ (ch l).size = (ch (l.take (ch l).part)).size + (ch (l.drop (ch l).part)).size) := by
  rcases ch_made0 h with h1 | h1 | h1 | h1
  · exact .inl h1
  · exact .inr (.inl h1)
  · exact .inr (.inr h1)
  · have := ch_le l.length rfl h
    rw [h1] at this
    simp only at this
    omega
end Go.Proofs.Ytgbmeefcnjdjbaa
