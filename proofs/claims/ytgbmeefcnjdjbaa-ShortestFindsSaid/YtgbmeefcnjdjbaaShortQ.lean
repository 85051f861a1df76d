/- The shortest list in plain Lean: it expands to the cells, and no list is shorter. -/
import Derived.Test.YtgbmeefcnjdjbaaShortP
namespace Go.Proofs.Ytgbmeefcnjdjbaa
set_option maxRecDepth 100000
theorem perB_e {l : List St} {p : Nat} (h : perB l p = true) : l.length % p = 0 ∧ l.drop p = l.take (l.length - p) := by
  simp only [perB, Bool.and_eq_true, decide_eq_true_eq] at h
  exact h
theorem per_rep {p : Nat} (hp : 0 < p) : ∀ (q : Nat) (l : List St), l.length = q * p → l.drop p = l.take (l.length - p) → l = rep q (l.take p) := by
  intro q
  induction q with
  | zero => intro l h _; rw [Nat.zero_mul] at h; exact List.eq_nil_of_length_eq_zero h
  | succ q ih =>
    intro l h hd
    have hlen : l.length = q * p + p := by rw [h, Nat.add_mul, Nat.one_mul]
    rw [rep]
    rcases Nat.eq_zero_or_pos q with h0 | h0
    · subst h0
      rw [Nat.zero_mul, Nat.zero_add] at hlen
      rw [rep, List.append_nil, List.take_of_length_le (by omega)]
    · have hq : p ≤ q * p := Nat.le_mul_of_pos_left p h0
      have h1 : (l.drop p).length = q * p := by rw [List.length_drop]; omega
      have h2 : (l.drop p).take p = l.take p := by
        rw [hd, List.take_take]; congr 1; omega
      have h3 := ih (l.drop p) h1 (by
        have e : (l.drop p).length - p = q * p - p := by rw [h1]
        rw [e]
        have e2 : l.drop p = l.take (q * p) := by rw [hd, hlen, Nat.add_sub_cancel]
        have e3 : (l.drop p).take (q * p - p) = l.take (q * p - p) := by rw [e2, List.take_take]; congr 1; omega
        rw [e3]
        calc (l.drop p).drop p = (l.take (q * p)).drop p := by rw [e2]
          _ = (l.drop p).take (q * p - p) := by rw [List.drop_take]
          _ = l.take (q * p - p) := e3)
      rw [h2] at h3
      rw [← h3, List.take_append_drop]
theorem per_is {l : List St} {p : Nat} (hp : 0 < p) (h : perB l p = true) : l = rep (l.length / p) (l.take p) := by
  obtain ⟨h1, h2⟩ := perB_e h
  exact per_rep hp _ l (by have := Nat.div_add_mod l.length p; rw [h1, Nat.add_zero, Nat.mul_comm] at this; exact this.symm) h2
theorem rep_one (n : Nat) (x : St) : rep n [x] = List.replicate n x := by
  induction n with
  | zero => rfl
  | succ n ih => rw [rep, ih, List.replicate_succ]; rfl
theorem per_all {l : List St} (hl : l ≠ []) (h : perB l 1 = true) : l = List.replicate l.length (l.getD 0 st0) := by
  have h1 := per_is (by omega) h
  rw [Nat.div_one] at h1
  have h2 : l.take 1 = [l.getD 0 st0] := by
    cases l with
    | nil => exact absurd rfl hl
    | cons x l => rfl
  rw [h2, rep_one] at h1
  exact h1
theorem rep_take (n : Nat) (g : List St) (h : 0 < n) : (rep n g).take g.length = g := by
  cases n with
  | zero => omega
  | succ n => rw [rep, List.take_append_of_le_length (Nat.le_refl _), List.take_of_length_le (Nat.le_refl _)]
theorem rep_snoc (n : Nat) (g : List St) : rep (n + 1) g = rep n g ++ g := by
  induction n with
  | zero => simp [rep]
  | succ n ih =>
    show g ++ rep (n + 1) g = (g ++ rep n g) ++ g
    rw [ih, List.append_assoc]
theorem rep_per (n : Nat) (g : List St) (h : 0 < n) : perB (rep n g) g.length = true := by
  cases n with
  | zero => omega
  | succ n =>
    simp only [perB, Bool.and_eq_true, decide_eq_true_eq]
    refine ⟨by rw [rep_len]; exact Nat.mul_mod_left _ _, ?_⟩
    have e1 : (rep (n + 1) g).drop g.length = rep n g := by rw [rep, List.drop_left]
    have e2 : (rep (n + 1) g).take ((rep (n + 1) g).length - g.length) = rep n g := by
      have e3 : (rep (n + 1) g).length - g.length = (rep n g).length := by rw [rep_len, rep_len, Nat.add_mul, Nat.one_mul, Nat.add_sub_cancel]
      rw [e3, rep_snoc, List.take_left]
    rw [e1, e2]
theorem replicate_per (n : Nat) (x : St) (h : 0 < n) : perB (List.replicate n x) 1 = true := by
  have := rep_per n [x] h
  rwa [rep_one] at this
theorem getD_mem0 {l : List St} (h : l ≠ []) : l.getD 0 st0 ∈ l := by
  cases l with
  | nil => exact absurd rfl h
  | cons x l => simp
/-- the shortest list -/
def mkT : Nat → List St → Tms
  | 0, _ => .nil
  | f + 1, l =>
    if 0 < (ch l).part then (mkT f (l.take (ch l).part)).app (mkT f (l.drop (ch l).part))
    else if 0 < (ch l).period then .cons ((l.length / (ch l).period : Nat) : Int) st0 (mkT f (l.take (ch l).period)) .nil
    else .cons (l.length : Int) (l.getD 0 st0) .nil .nil
/-- each term stands at most so often -/
def Tms.top (m : Int) : Tms → Prop
  | .nil => True
  | .cons n _ g r => n ≤ m ∧ g.top m ∧ r.top m
/-- a group has no cell, and a cell is one of these -/
def Tms.good (q : St → Prop) : Tms → Prop
  | .nil => True
  | .cons _ c .nil r => q c ∧ r.good q
  | .cons _ c g r => c = st0 ∧ g.good q ∧ r.good q
theorem good_one (q : St → Prop) (n : Int) (c : St) (r : Tms) : (Tms.cons n c .nil r).good q = (q c ∧ r.good q) := rfl
theorem good_grp (q : St → Prop) (n : Int) (c : St) (g r : Tms) (h : g ≠ .nil) : (Tms.cons n c g r).good q = (c = st0 ∧ g.good q ∧ r.good q) := by
  cases g with
  | nil => exact absurd rfl h
  | cons => rfl
theorem app_top (m : Int) : ∀ (a b : Tms), a.top m → b.top m → (a.app b).top m := by
  intro a
  induction a with
  | nil => intro b _ h; exact h
  | cons n c g r _ ih2 => intro b h k; exact ⟨h.1, h.2.1, ih2 b h.2.2 k⟩
theorem app_good (q : St → Prop) : ∀ (a b : Tms), a.good q → b.good q → (a.app b).good q := by
  intro a
  induction a with
  | nil => intro b _ h; exact h
  | cons n c g r _ ih2 =>
    intro b h k
    rw [Tms.app]
    by_cases hg : g = .nil
    · subst hg
      rw [good_one] at h ⊢
      exact ⟨h.1, ih2 b h.2 k⟩
    · rw [good_grp _ _ _ _ _ hg] at h ⊢
      exact ⟨h.1, h.2.1, ih2 b h.2.2 k⟩
theorem app_ne {a b : Tms} (h : a ≠ .nil) : a.app b ≠ .nil := by
  cases a with
  | nil => exact absurd rfl h
  | cons => intro e; cases e
/-- what the shortest list is -/
structure IsT (l : List St) (t : Tms) : Prop where
  cells : t.cells = l
  size : t.size = (ch l).size
  pos : t.pos
  ne : t ≠ .nil
  top : t.top l.length
  good : ∀ q : St → Prop, (∀ x ∈ l, q x) → t.good q
  depth : ∀ k, l.length < 2 ^ (k + 1) → t.depth ≤ k + 1
theorem top_mono {m m' : Int} (h : m ≤ m') : ∀ {t : Tms}, t.top m → t.top m' := by
  intro t
  induction t with
  | nil => intro _; trivial
  | cons n c g r ih1 ih2 => intro k; exact ⟨Int.le_trans k.1 h, ih1 k.2.1, ih2 k.2.2⟩
theorem mkT_is : ∀ (f : Nat) (l : List St), l ≠ [] → l.length ≤ f → IsT l (mkT f l) := by
  intro f
  induction f with
  | zero => intro l h1 h2; have := ne_len h1; omega
  | succ f ih =>
    intro l hne hf
    have hl := ne_len hne
    rw [mkT]
    rcases ch_made hne with ⟨h1, h2⟩ | ⟨h1, h2, h3, h4, h5⟩ | ⟨h1, h2, h3, h4⟩
    · rw [h1]
      simp only [Nat.lt_irrefl, if_false]
      refine ⟨?_, by rw [h1]; rfl, ⟨by omega, trivial, trivial⟩, (by intro e; cases e), ⟨Int.le_refl _, trivial, trivial⟩, fun q hq => ⟨hq _ (getD_mem0 hne), trivial⟩, fun k _ => by simp [Tms.depth]⟩
      rw [cells_one]
      simp only [Tms.cells, List.append_nil, Int.toNat_natCast]
      exact (per_all hne h2).symm
    · rw [if_neg (by omega), if_pos (by omega)]
      have hln : (l.take (ch l).period).length = (ch l).period := by rw [List.length_take]; omega
      have it := ih (l.take (ch l).period) (len_ne (by omega)) (by omega)
      have hdiv : 2 * (ch l).period ≤ l.length := by
        have hm := (perB_e h4).1
        have hq : 2 ≤ l.length / (ch l).period := by
          rcases Nat.lt_or_ge (l.length / (ch l).period) 2 with hlt | hge
          · have e := Nat.div_add_mod l.length (ch l).period
            rw [hm, Nat.add_zero] at e
            have : (ch l).period * (l.length / (ch l).period) ≤ (ch l).period * 1 := Nat.mul_le_mul_left _ (by omega)
            omega
          · exact hge
        have := Nat.div_mul_le_self l.length (ch l).period
        have := Nat.mul_le_mul_right (ch l).period hq
        omega
      have hq1 : 1 ≤ l.length / (ch l).period := Nat.div_pos (by omega) (by omega)
      have hq2 : l.length / (ch l).period ≤ l.length := Nat.div_le_self _ _
      refine ⟨?_, ?_, ⟨by omega, it.pos, trivial⟩, (by intro e; cases e), ⟨by omega, top_mono (by omega) it.top, trivial⟩, fun q hq => ?_, fun k hk => ?_⟩
      · rw [cells_grp _ _ _ _ it.ne, it.cells]
        simp only [Tms.cells, List.append_nil, Int.toNat_natCast]
        exact (per_is (by omega) h4).symm
      · rw [Tms.size, it.size, h5]; rfl
      · rw [good_grp _ _ _ _ _ it.ne]
        exact ⟨rfl, it.good q (fun x hx => hq x (List.mem_of_mem_take hx)), trivial⟩
      · rw [Tms.depth]
        simp only [Tms.depth]
        cases k with
        | zero => rw [Nat.zero_add, Nat.pow_one] at hk; omega
        | succ k =>
          have := it.depth k (by rw [Nat.pow_succ] at hk; omega)
          omega
    · rw [if_pos (by omega)]
      have hl1 : (l.take (ch l).part).length = (ch l).part := by rw [List.length_take]; omega
      have hl2 : (l.drop (ch l).part).length = l.length - (ch l).part := by rw [List.length_drop]
      have i1 := ih (l.take (ch l).part) (len_ne (by omega)) (by omega)
      have i2 := ih (l.drop (ch l).part) (len_ne (by omega)) (by omega)
      refine ⟨by rw [app_cells, i1.cells, i2.cells, List.take_append_drop], by rw [app_size, i1.size, i2.size, h4], app_pos _ _ i1.pos i2.pos, app_ne i1.ne, app_top _ _ _ (top_mono (by omega) i1.top) (top_mono (by omega) i2.top),
        fun q hq => app_good _ _ _ (i1.good q (fun x hx => hq x (List.mem_of_mem_take hx))) (i2.good q (fun x hx => hq x (List.mem_of_mem_drop hx))), fun k hk => ?_⟩
      rw [app_depth]
      have := i1.depth k (by omega)
      have := i2.depth k (by omega)
      omega
/-- no list that expands to cells is shorter -/
theorem ch_least : ∀ {t : Tms}, t.pos → t ≠ .nil → (ch t.cells).size ≤ t.size := by
  intro t
  induction t with
  | nil => intro _ h; exact absurd rfl h
  | cons n c g r ih1 ih2 =>
    intro hp _
    have hn : 0 < n.toNat := by have := hp.1; omega
    -- the first term alone
    have h1 : ∃ A : List St, A ≠ [] ∧ (Tms.cons n c g r).cells = A ++ r.cells ∧ (ch A).size ≤ 1 + g.size := by
      by_cases hg : g = .nil
      · subst hg
        refine ⟨List.replicate n.toNat c, len_ne (by simp; omega), rfl, ?_⟩
        rw [ch_size_all (len_ne (by simp; omega)) (replicate_per _ _ hn)]
        simp [Tms.size]
      · have hgp := cells_pos hp.2.1 hg
        have hrl := rep_len n.toNat g.cells
        have hrp : 0 < (rep n.toNat g.cells).length := by rw [hrl]; exact Nat.mul_pos hn hgp
        refine ⟨rep n.toNat g.cells, len_ne hrp, cells_grp _ _ _ _ hg, ?_⟩
        have hi := ih1 hp.2.1 hg
        rcases Nat.lt_or_ge 1 n.toNat with h2 | h2
        · rcases Nat.lt_or_ge 1 g.cells.length with h3 | h3
          · have hlt : g.cells.length < (rep n.toNat g.cells).length := by
              rw [hrl]
              have := Nat.mul_le_mul_right g.cells.length (show 2 ≤ n.toNat by omega)
              omega
            have := ch_per (len_ne hrp) (by omega) hlt (rep_per _ _ hn)
            rw [rep_take _ _ hn] at this
            omega
          · obtain ⟨x, hx⟩ : ∃ x, g.cells = [x] := by
              match hh : g.cells, hgp, h3 with
              | [x], _, _ => exact ⟨x, rfl⟩
            have : perB (rep n.toNat g.cells) 1 = true := by rw [hx, rep_one]; exact replicate_per _ _ hn
            rw [ch_size_all (len_ne hrp) this]
            simp only; omega
        · obtain hn1 : n.toNat = 1 := by omega
          rw [hn1, rep, rep, List.append_nil]
          omega
    obtain ⟨A, hA, hc, hs⟩ := h1
    rw [hc, Tms.size]
    by_cases hr : r = .nil
    · subst hr
      simp only [Tms.cells, List.append_nil, Tms.size]
      omega
    · have hrc := cells_pos hp.2.2 hr
      have hr2 := ih2 hp.2.2 hr
      have hAl := ne_len hA
      rcases ch_part (l := A ++ r.cells) (k := A.length) (by omega) (by rw [List.length_append]; omega) with h | h
      · rw [List.take_left, List.drop_left] at h
        omega
      · rw [h]; omega
/-- the shortest list of some cells, and its size -/
def findT (l : List St) : Tms := if l = [] then .nil else mkT l.length l
theorem find_is {l : List St} (h : l ≠ []) : IsT l (findT l) := by rw [findT, if_neg h]; exact mkT_is _ _ h (Nat.le_refl _)
theorem find_cells (l : List St) : (findT l).cells = l := by
  by_cases h : l = []
  · subst h; rfl
  · exact (find_is h).cells
theorem find_least {t : Tms} (h : t.pos) : (findT t.cells).size ≤ t.size := by
  by_cases ht : t = .nil
  · subst ht; simp [Tms.cells, findT, Tms.size]
  · have hc := len_ne (cells_pos h ht)
    rw [(find_is hc).size]
    exact ch_least h ht
/-- the terms in the opposite order -/
def Tms.rev : Tms → Tms
  | .nil => .nil
  | .cons n c g r => r.rev.app (.cons n c g.rev .nil)
def Tms.mapC (f : St → St) : Tms → Tms
  | .nil => .nil
  | .cons n c g r => .cons n (f c) (g.mapC f) (r.mapC f)
theorem rev_ne {t : Tms} (h : t ≠ .nil) : t.rev ≠ .nil := by
  cases t with
  | nil => exact absurd rfl h
  | cons n c g r =>
    rw [Tms.rev]
    cases r.rev with
    | nil => intro e; cases e
    | cons => intro e; cases e
theorem rev_rep (n : Nat) (l : List St) : (rep n l).reverse = rep n l.reverse := by
  induction n with
  | zero => rfl
  | succ n ih => rw [rep, List.reverse_append, ih, rep_snoc]
theorem rev_facts : ∀ (t : Tms), t.rev.cells = t.cells.reverse ∧ t.rev.size = t.size ∧ (t.pos → t.rev.pos) := by
  intro t
  induction t with
  | nil => exact ⟨rfl, rfl, fun h => h⟩
  | cons n c g r ih1 ih2 =>
    refine ⟨?_, ?_, fun h => app_pos _ _ (ih2.2.2 h.2.2) ⟨h.1, ih1.2.2 h.2.1, trivial⟩⟩
    · rw [Tms.rev, app_cells, ih2.1]
      by_cases hg : g = .nil
      · subst hg
        rw [show Tms.nil.rev = Tms.nil from rfl, cells_one, cells_one, List.reverse_append, List.reverse_replicate]
        simp [Tms.cells]
      · rw [cells_grp _ _ _ _ (rev_ne hg), cells_grp _ _ _ _ hg, ih1.1, List.reverse_append, rev_rep]
        simp [Tms.cells]
    · rw [Tms.rev, app_size, ih2.2.1, Tms.size, Tms.size, ih1.2.1]; simp [Tms.size]; omega
theorem map_ne {f : St → St} {t : Tms} (h : t ≠ .nil) : t.mapC f ≠ .nil := by
  cases t with
  | nil => exact absurd rfl h
  | cons => intro e; cases e
theorem map_rep (f : St → St) (n : Nat) (l : List St) : (rep n l).map f = rep n (l.map f) := by
  induction n with
  | zero => rfl
  | succ n ih => rw [rep, List.map_append, ih, rep]
theorem map_facts (f : St → St) : ∀ (t : Tms), (t.mapC f).cells = t.cells.map f ∧ (t.mapC f).size = t.size ∧ (t.pos → (t.mapC f).pos) := by
  intro t
  induction t with
  | nil => exact ⟨rfl, rfl, fun h => h⟩
  | cons n c g r ih1 ih2 =>
    refine ⟨?_, by rw [Tms.mapC, Tms.size, Tms.size, ih1.2.1, ih2.2.1], fun h => ⟨h.1, ih1.2.2 h.2.1, ih2.2.2 h.2.2⟩⟩
    rw [Tms.mapC]
    by_cases hg : g = .nil
    · subst hg
      rw [show Tms.nil.mapC f = Tms.nil from rfl, cells_one, cells_one, List.map_append, List.map_replicate, ih2.1]
    · rw [cells_grp _ _ _ _ (map_ne hg), cells_grp _ _ _ _ hg, List.map_append, map_rep, ih1.1, ih2.1]
theorem find_pos (l : List St) : (findT l).pos := by
  by_cases h : l = []
  · subst h; trivial
  · exact (find_is h).pos
/-- the laws of sizes -/
theorem find_rev (l : List St) : (findT l.reverse).size = (findT l).size := by
  have h : ∀ l : List St, (findT l.reverse).size ≤ (findT l).size := fun l => by
    obtain ⟨h1, h2, h3⟩ := rev_facts (findT l)
    have := find_least (h3 (find_pos l))
    rwa [h1, find_cells, h2] at this
  have h1 := h l
  have h2 := h l.reverse
  rw [List.reverse_reverse] at h2
  omega
theorem find_map {f : St → St} (hf : ∀ x, f (f x) = x) (l : List St) : (findT (l.map f)).size = (findT l).size := by
  have h : ∀ l : List St, (findT (l.map f)).size ≤ (findT l).size := fun l => by
    obtain ⟨h1, h2, h3⟩ := map_facts f (findT l)
    have := find_least (h3 (find_pos l))
    rwa [h1, find_cells, h2] at this
  have h1 := h l
  have h2 := h (l.map f)
  rw [List.map_map, show f ∘ f = id from funext hf, List.map_id] at h2
  omega
theorem find_app (a b : List St) : (findT (a ++ b)).size ≤ (findT a).size + (findT b).size := by
  have := find_least (app_pos _ _ (find_pos a) (find_pos b))
  rwa [app_cells, find_cells, find_cells, app_size] at this
theorem find_rep (n : Nat) (a : List St) (h : 1 ≤ n) : (findT (rep n a)).size ≤ (findT a).size + 1 := by
  by_cases ha : a = []
  · subst ha
    have : ∀ n, rep n ([] : List St) = [] := fun n => by induction n with
      | zero => rfl
      | succ n ih => rw [rep, ih]; rfl
    rw [this]; omega
  · have := find_least (t := .cons (n : Int) st0 (findT a) .nil) ⟨by omega, find_pos a, trivial⟩
    rw [cells_grp _ _ _ _ (find_is ha).ne, find_cells] at this
    simp only [Tms.cells, List.append_nil, Int.toNat_natCast, Tms.size] at this
    omega
theorem find_len (a : List St) : (findT a).size ≤ a.length := by
  by_cases h : a = []
  · subst h; simp [findT, Tms.size]
  · rw [(find_is h).size]; exact (ch_le a.length rfl h).2
end Go.Proofs.Ytgbmeefcnjdjbaa
