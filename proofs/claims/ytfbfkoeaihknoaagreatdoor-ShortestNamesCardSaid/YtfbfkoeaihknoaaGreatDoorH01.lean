/- Parse of Text is the list: the plain law of the texts of stitches. -/
import Derived.Test.YtfbfkoeaihknoaaGreatDoorH00
import Derived.WalkKit
import Derived.IntWalk
import Derived.WalkSpells
import Derived.Lib.Hide
import Derived.Deep.Draws
namespace Go.Proofs.YtfbfkoeaihknoaaGreatDoor
set_option maxRecDepth 100000
/-- what is known of a word that is written -/
structure WordFine (x : St × Nat) : Prop where
  read : readW (wordG x) = (x.1, (x.2 : Int))
  blank : (32 : UInt8) ∉ wordG x
  line : (10 : UInt8) ∉ wordG x
  short : (wordG x).length ≤ 5
  long : 0 < (wordG x).length
theorem word_fine {s : St} {n : Nat} (h : okSt s = true) (h1 : 1 ≤ n) (h2 : n ≤ 200) (h3 : n = 1 ∨ s.k = 1) : WordFine (s, n) := by
  rcases Nat.lt_or_ge 1 n with hn | hn
  · have hk : s.k = 1 := by rcases h3 with h3 | h3; · omega
                            · exact h3
    obtain ⟨hk1, ha, hb, hp⟩ := ok_e h
    rw [hk] at ha hb
    have ha := inR_e ha
    have hb := inR_e hb
    simp [fa0, fa1, fb0, fb1] at ha hb
    obtain ⟨k, p, a, b⟩ := s
    simp only at hk ha hb
    subst hk
    obtain rfl : a = 0 := by omega
    obtain rfl : b = 0 := by omega
    obtain ⟨m, rfl⟩ : ∃ m, n = m + 2 := ⟨n - 2, by omega⟩
    have h5 := List.all_eq_true.1 runs_ok m (List.mem_range.2 (by omega))
    have h6 := List.all_eq_true.1 h5 p (by cases p <;> simp)
    simp only [Bool.and_eq_true, decide_eq_true_eq, Bool.not_eq_true'] at h6
    refine ⟨h6.1.1.1, fun h => ?_, fun h => ?_, h6.2, ?_⟩
    · have := List.contains_iff_mem.2 h; rw [h6.1.1.2] at this; cases this
    · have := List.contains_iff_mem.2 h; rw [h6.1.2] at this; cases this
    · have : 0 < (wordT ⟨1, p, 0, 0⟩).length := by cases p <;> decide
      simp only [wordG, List.length_append]; omega
  · obtain rfl : n = 1 := by omega
    have h5 := List.all_eq_true.1 words_ok s (mem_allSt h)
    simp only [wordOk, Bool.and_eq_true, decide_eq_true_eq, Bool.not_eq_true'] at h5
    have e : wordG (s, 1) = wordT s := by simp [wordG]
    refine ⟨by rw [e]; exact h5.1.1.1.1, fun h => ?_, fun h => ?_, by rw [e]; exact h5.1.2, by rw [e]; exact h5.2⟩
    · rw [e] at h; have := List.contains_iff_mem.2 h; rw [h5.1.1.1.2] at this; cases this
    · rw [e] at h; have := List.contains_iff_mem.2 h; rw [h5.1.1.2] at this; cases this
theorem grp_cons (s : St) (l : List St) : (∃ n g, grp l = (s, n) :: g ∧ s.k = 1 ∧ grp (s :: l) = (s, n + 1) :: g) ∨ (grp (s :: l) = (s, 1) :: grp l ∧ ∀ n g, grp l = (s, n) :: g → s.k ≠ 1) := by
  rcases h : grp l with _ | ⟨⟨t, n⟩, g⟩
  · exact .inr ⟨by simp [grp, h], fun n g e => by cases e⟩
  · by_cases hc : s.k = 1 ∧ s = t
    · obtain ⟨h1, rfl⟩ := hc
      exact .inl ⟨n, g, rfl, h1, by simp [grp, h, h1]⟩
    · refine .inr ⟨by simp only [grp, h]; rw [if_neg hc], fun n' g' e hk => hc ⟨hk, ?_⟩⟩
      injection e with e1 e2
      injection e1 with e1 e3
      exact e1.symm
theorem grp_expand (l : List St) : (grp l).flatMap (fun x => List.replicate x.2 x.1) = l := by
  induction l with
  | nil => rfl
  | cons s l ih =>
    rcases grp_cons s l with ⟨n, g, h1, _, h3⟩ | ⟨h1, _⟩
    · rw [h1] at ih
      rw [h3, List.flatMap_cons] 
      rw [List.flatMap_cons] at ih
      rw [List.replicate_succ, List.cons_append, ih]
    · rw [h1, List.flatMap_cons, ih]; rfl
theorem grp_sum (l : List St) : ((grp l).map (·.2)).sum = l.length := by
  induction l with
  | nil => rfl
  | cons s l ih =>
    rcases grp_cons s l with ⟨n, g, h1, _, h3⟩ | ⟨h1, _⟩
    · rw [h1] at ih
      rw [h3]
      simp at ih ⊢
      omega
    · rw [h1]; simp at ih ⊢; omega
theorem grp_mem {l : List St} : ∀ {x : St × Nat}, x ∈ grp l → x.1 ∈ l ∧ 1 ≤ x.2 ∧ (x.2 = 1 ∨ x.1.k = 1) := by
  induction l with
  | nil => intro x h; cases h
  | cons s l ih =>
    intro x h
    rcases grp_cons s l with ⟨n, g, h1, h2, h3⟩ | ⟨h1, _⟩
    · rw [h3] at h
      rcases List.mem_cons.1 h with rfl | h
      · exact ⟨by simp, by simp, .inr h2⟩
      · have := ih (x := x) (by rw [h1]; simp [h])
        exact ⟨by simp [this.1], this.2⟩
    · rw [h1] at h
      rcases List.mem_cons.1 h with rfl | h
      · exact ⟨by simp, by simp, .inl rfl⟩
      · have := ih h
        exact ⟨by simp [this.1], this.2⟩
theorem grp_ne {l : List St} (h : l ≠ []) : grp l ≠ [] := by
  cases l with
  | nil => exact absurd rfl h
  | cons s l =>
    rcases grp_cons s l with ⟨n, g, _, _, h3⟩ | ⟨h1, _⟩
    · rw [h3]; simp
    · rw [h1]; simp
theorem le_sum {l : List (St × Nat)} {x : St × Nat} (h : x ∈ l) : x.2 ≤ (l.map (·.2)).sum := by
  induction l with
  | nil => cases h
  | cons y l ih =>
    rcases List.mem_cons.1 h with rfl | h
    · simp
    · have := ih h; simp at this ⊢; omega
theorem grp_fine {l : List St} (h : allE l = 0) {x : St × Nat} (hx : x ∈ grp l) : WordFine x := by
  obtain ⟨h1, h2, _, _⟩ := allE_e h
  obtain ⟨m1, m2, m3⟩ := grp_mem hx
  have h4 := le_sum hx
  rw [grp_sum] at h4
  exact word_fine (List.all_eq_true.1 h2 _ m1) m2 (by omega) m3
/-- what Parse does with the words -/
def parseGo : List St → List (List UInt8) → Option (List St)
  | acc, [] => some acc
  | acc, w :: ws => if okSt (readW w).1 = true ∧ (acc.length : Int) + (readW w).2 ≤ 200 then parseGo (acc ++ List.replicate (readW w).2.toNat (readW w).1) ws else none
def parseW (s : List UInt8) : Option (List St) := if s = [] then some [] else parseGo [] (spl 32 s)
def parseL (s : List UInt8) : Option (List St) :=
  if 3000 < s.length then none else (parseW s).bind fun l => if allE l = 0 ∧ textL l = s then some l else none
theorem parseGo_words {gs : List (St × Nat)} : ∀ {acc : List St}, (∀ x ∈ gs, WordFine x ∧ okSt x.1 = true) → acc.length + (gs.map (·.2)).sum ≤ 200 →
    parseGo acc (gs.map wordG) = some (acc ++ gs.flatMap (fun x => List.replicate x.2 x.1)) := by
  induction gs with
  | nil => intro acc _ _; simp [parseGo]
  | cons x gs ih =>
    intro acc h hs
    obtain ⟨hf, hk⟩ := h x (by simp)
    simp only [List.map_cons, List.sum_cons] at hs
    rw [List.map_cons, parseGo, hf.read]
    rw [if_pos ⟨hk, by simp only; omega⟩]
    rw [ih (fun y hy => h y (by simp [hy])) (by simp; omega)]
    simp
theorem text_nil : textL [] = [] := rfl
theorem join_len_le {c : UInt8} {ws : List (List UInt8)} {m : Nat} (h : ∀ w ∈ ws, w.length ≤ m) : (joinB c ws).length ≤ (m + 1) * ws.length := by
  induction ws with
  | nil => simp [joinB]
  | cons x ws ih =>
    have hx := h x (by simp)
    cases ws with
    | nil => simp only [joinB, List.length_cons, List.length_nil]; omega
    | cons y ws =>
      have := ih (fun w hw => h w (by simp at hw ⊢; exact .inr hw))
      simp only [joinB, List.length_append, List.length_cons] at this ⊢
      rw [Nat.mul_add (m + 1) (ws.length + 1) 1, Nat.mul_one]
      omega
theorem grp_len (l : List St) : (grp l).length ≤ l.length := by
  induction l with
  | nil => simp [grp]
  | cons s l ih =>
    rcases grp_cons s l with ⟨n, g, h1, _, h3⟩ | ⟨h1, _⟩
    · rw [h1] at ih; rw [h3]; simp at ih ⊢; omega
    · rw [h1]; simp; omega
/-- a text is never too long -/
theorem text_len {l : List St} (h : allE l = 0) : (textL l).length ≤ 6 * l.length := by
  have h1 := join_len_le (c := 32) (ws := (grp l).map wordG) (m := 5) (fun w hw => by
    obtain ⟨x, hx, rfl⟩ := List.mem_map.1 hw
    exact (grp_fine h hx).short)
  have h2 := grp_len l
  rw [List.length_map] at h1
  unfold textL
  omega
theorem text_short {l : List St} (h : allE l = 0) : (textL l).length ≤ 1200 := by
  have h1 := text_len h
  have h2 := (allE_e h).1
  omega
theorem join_ne {c : UInt8} {ws : List (List UInt8)} (h : ws ≠ []) (hw : ∀ w ∈ ws, 0 < w.length) : joinB c ws ≠ [] := by
  cases ws with
  | nil => exact absurd rfl h
  | cons x ws =>
    have := hw x (by simp)
    cases ws with
    | nil => intro e; rw [joinB] at e; rw [e] at this; simp at this
    | cons y ws => intro e; rw [joinB] at e; simp at e
theorem text_spl {l : List St} (h : allE l = 0) (hl : l ≠ []) : spl 32 (textL l) = (grp l).map wordG :=
  spl_join (by simpa using grp_ne hl) (fun w hw => by
    obtain ⟨x, hx, rfl⟩ := List.mem_map.1 hw
    exact (grp_fine h hx).blank)
/-- Parse of Text is the list -/
theorem parse_text {l : List St} (h : allE l = 0) : parseL (textL l) = some l := by
  have hs := text_short h
  rw [parseL, if_neg (by omega)]
  have hw : parseW (textL l) = some l := by
    rcases List.eq_nil_or_concat l with rfl | ⟨l', x, e⟩
    · rfl
    · have hl : l ≠ [] := by rw [e]; simp
      have hne : textL l ≠ [] := join_ne (by simpa using grp_ne hl) (fun w hw => by
        obtain ⟨x, hx, rfl⟩ := List.mem_map.1 hw
        exact (grp_fine h hx).long)
      rw [parseW, if_neg hne, text_spl h hl, parseGo_words (fun y hy => ⟨grp_fine h hy, List.all_eq_true.1 (allE_e h).2.1 _ (grp_mem hy).1⟩) (by rw [grp_sum]; have := (allE_e h).1; simp; omega), grp_expand]
      simp
  rw [hw, Option.bind_some, if_pos ⟨h, rfl⟩]
theorem parse_iff {s : List UInt8} {l : List St} : parseL s = some l ↔ s.length ≤ 3000 ∧ allE l = 0 ∧ textL l = s := by
  constructor
  · intro h
    unfold parseL at h
    split at h
    · cases h
    · obtain ⟨l', h1, h2⟩ := Option.bind_eq_some_iff.1 h
      split at h2
      · rename_i h3
        cases h2
        exact ⟨by omega, h3⟩
      · cases h2
  · rintro ⟨h1, h2, rfl⟩
    exact parse_text h2
end Go.Proofs.YtfbfkoeaihknoaaGreatDoor
/- The texts of terms in plain Lean: what is written, and what the program's reader reads. -/
namespace Go.Proofs.YtfbfkoeaihknoaaGreatDoor
set_option maxRecDepth 100000
/-- the bytes at which a word ends -/
def isStop (c : UInt8) : Bool := c == 32 || c == 40 || c == 41 || c == 42
/-- what stands ahead of the first of them, and what is behind -/
def untilS : List UInt8 → List UInt8 × List UInt8
  | [] => ([], [])
  | x :: l => if isStop x then ([], x :: l) else (x :: (untilS l).1, (untilS l).2)
theorem until_word {w r : List UInt8} (h : ∀ x ∈ w, isStop x = false) (hr : r = [] ∨ ∃ c s, r = c :: s ∧ isStop c = true) : untilS (w ++ r) = (w, r) := by
  induction w with
  | nil =>
    rcases hr with rfl | ⟨c, s, rfl, hc⟩
    · rfl
    · simp [untilS, hc]
  | cons x w ih =>
    rw [List.cons_append, untilS, if_neg (by rw [h x (by simp)]; simp), ih (fun y hy => h y (by simp [hy]))]
/-- how often a term stands -/
def timesW (n : Int) : List UInt8 := if 1 < n then 42 :: decD n.toNat else []
/-- the text of terms -/
def wT : Tms → List UInt8
  | .nil => []
  | .cons n c .nil .nil => textL [c] ++ timesW n
  | .cons n c .nil r => textL [c] ++ timesW n ++ 32 :: wT r
  | .cons n _ g .nil => (40 :: (wT g ++ [41])) ++ timesW n
  | .cons n _ g r => (40 :: (wT g ++ [41])) ++ timesW n ++ 32 :: wT r
/-- the text of what is repeated -/
def headW (c : St) (g : Tms) : List UInt8 := match g with
  | .nil => textL [c]
  | g => 40 :: (wT g ++ [41])
theorem head_grp {c : St} {g : Tms} (h : g ≠ .nil) : headW c g = 40 :: (wT g ++ [41]) := by
  cases g with
  | nil => exact absurd rfl h
  | cons => rfl
theorem wT_one (n : Int) (c : St) (g : Tms) : wT (.cons n c g .nil) = headW c g ++ timesW n := by
  cases g <;> simp [wT, headW]
theorem wT_cons (n : Int) (c : St) (g r : Tms) (h : r ≠ .nil) : wT (.cons n c g r) = headW c g ++ timesW n ++ 32 :: wT r := by
  cases g <;> cases r <;> first | exact absurd rfl h | simp [wT, headW]
/-- how often: what is behind a term -/
def rdN (at_ : List UInt8 → Option Int) (c : St) (g : Tms) : List UInt8 → Option ((Int × St × Tms) × List UInt8)
  | 42 :: s => match at_ (untilS s).1 with
    | none => none
    | some n => some ((n, c, g), (untilS s).2)
  | s => some ((1, c, g), s)
mutual
/-- what is read of terms: the first number ends the way down, the second is the depth -/
def rdL (at_ : List UInt8 → Option Int) : Nat → Nat → List UInt8 → Option (Tms × List UInt8)
  | 0, _, _ => none
  | f + 1, d, s => match rdT at_ f d s with
    | none => none
    | some ((n, c, g), 32 :: s2) => (rdL at_ f d s2).map fun x => (.cons n c g x.1, x.2)
    | some ((n, c, g), s1) => some (.cons n c g .nil, s1)
/-- what is read of a term -/
def rdT (at_ : List UInt8 → Option Int) : Nat → Nat → List UInt8 → Option ((Int × St × Tms) × List UInt8)
  | 0, _, _ => none
  | f + 1, d, s => match s with
    | 40 :: s1 => if 8 < d + 1 then none else match rdL at_ f (d + 1) s1 with
      | some (g, 41 :: s2) => rdN at_ st0 g s2
      | _ => none
    | s => match parseL (untilS s).1 with
      | some [c] => rdN at_ c .nil (untilS s).2
      | _ => none
end
def cellOk (s : St) : Bool := decide (allE [s] = 0) && (wordT s).all (fun x => !isStop x) && !(wordT s).isEmpty
theorem cells_ok : allSt.all cellOk = true := by decide +kernel
theorem text_cell (c : St) : textL [c] = wordT c := by simp [textL, grp, joinB, wordG]
theorem cell_ok {c : St} (h : okSt c = true) : allE [c] = 0 ∧ (∀ x ∈ textL [c], isStop x = false) ∧ textL [c] ≠ [] := by
  have h1 := List.all_eq_true.1 cells_ok c (mem_allSt h)
  simp only [cellOk, Bool.and_eq_true, decide_eq_true_eq, List.all_eq_true, Bool.not_eq_true', List.isEmpty_eq_false_iff] at h1
  rw [text_cell]
  exact ⟨h1.1.1, h1.1.2, h1.2⟩
def digOk (n : Nat) : Bool := (decD n).all (fun x => !isStop x)
theorem digs_ok : (List.range 201).all digOk = true := by decide +kernel
theorem dig_ok {n : Nat} (h : n ≤ 200) : ∀ x ∈ decD n, isStop x = false := by
  have h1 := List.all_eq_true.1 digs_ok n (List.mem_range.2 (by omega))
  simpa [digOk] using h1
/-- what may stand behind a term -/
def Behind (s : List UInt8) : Prop := s = [] ∨ ∃ r, s = 32 :: r ∨ s = 41 :: r
theorem Behind.stop {s : List UInt8} (h : Behind s) : s = [] ∨ ∃ c r, s = c :: r ∧ isStop c = true := by
  rcases h with rfl | ⟨r, rfl | rfl⟩
  · exact .inl rfl
  · exact .inr ⟨32, r, rfl, rfl⟩
  · exact .inr ⟨41, r, rfl, rfl⟩
theorem rdN_one {at_ : List UInt8 → Option Int} {c : St} {g : Tms} {s : List UInt8} (h : Behind s) : rdN at_ c g s = some ((1, c, g), s) := by
  rcases h with rfl | ⟨r, rfl | rfl⟩ <;> rfl
theorem rdN_text {at_ : List UInt8 → Option Int} (hat : ∀ k : Nat, 2 ≤ k → k ≤ 200 → at_ (decD k) = some (k : Int)) {c : St} {g : Tms} {n : Int} (h1 : 1 ≤ n) (h2 : n ≤ 200) {s : List UInt8} (h : Behind s) : rdN at_ c g (timesW n ++ s) = some ((n, c, g), s) := by
  unfold timesW
  by_cases hn : 1 < n
  · rw [if_pos hn, List.cons_append, rdN, until_word (dig_ok (by omega)) h.stop]
    simp only
    rw [hat n.toNat (by omega) (by omega)]
    have e : ((n.toNat : Nat) : Int) = n := by omega
    rw [e]
  · rw [if_neg hn, List.nil_append, rdN_one h]
    have e : n = 1 := by omega
    rw [e]
theorem times_stop {n : Int} {s : List UInt8} (h : Behind s) : timesW n ++ s = [] ∨ ∃ c r, timesW n ++ s = c :: r ∧ isStop c = true := by
  unfold timesW
  split
  · exact .inr ⟨42, _, rfl, rfl⟩
  · exact h.stop
theorem text_no40 {c : St} (h : okSt c = true) (s : List UInt8) : ∃ x r, textL [c] ++ s = x :: r ∧ isStop x = false := by
  obtain ⟨_, h2, h3⟩ := cell_ok h
  cases e : textL [c] with
  | nil => exact absurd e h3
  | cons x r => exact ⟨x, r ++ s, rfl, h2 x (by rw [e]; simp)⟩
theorem rdT_cell (at_ : List UInt8 → Option Int) (f d : Nat) {x : UInt8} {r : List UInt8} (hx : isStop x = false) : rdT at_ (f + 1) d (x :: r) = match parseL (untilS (x :: r)).1 with
    | some [c] => rdN at_ c .nil (untilS (x :: r)).2
    | _ => none := by
  have hx2 : x ≠ 40 := by rintro rfl; simp [isStop] at hx
  rw [rdT]
  intro s1 e
  cases e
  exact hx2 rfl
/-- what is written is read -/
theorem rd_text {at_ : List UInt8 → Option Int} (hat : ∀ k : Nat, 2 ≤ k → k ≤ 200 → at_ (decD k) = some (k : Int)) : ∀ (M : Nat) (t : Tms), t.size ≤ M → t ≠ .nil → fineT t = true → ∀ (d f : Nat), t.depth + d ≤ 8 → 2 * t.size ≤ f → ∀ s : List UInt8, (s = [] ∨ ∃ r, s = 41 :: r) → rdL at_ f d (wT t ++ s) = some (t, s) := by
  intro M
  induction M with
  | zero =>
    intro t h h0
    have := size_pos h0
    omega
  | succ M ih =>
    intro t hs h0 hf d f hd hfl s hb
    cases t with
    | nil => exact absurd rfl h0
    | cons n c g r =>
      simp only [Tms.size] at hs hfl
      simp only [Tms.depth] at hd
      obtain ⟨f, rfl⟩ : ∃ k, f = k + 2 := ⟨f - 2, by omega⟩
      have hn : 1 ≤ n ∧ n ≤ 200 := by
        by_cases hg : g = .nil
        · subst hg
          rw [fine_one] at hf
          simp only [Bool.and_eq_true] at hf
          exact inR_e hf.1.1
        · rw [fine_grp _ _ _ _ hg] at hf
          simp only [Bool.and_eq_true] at hf
          exact inR_e hf.1.1.1
      have hfr : fineT r = true := by
        by_cases hg : g = .nil
        · subst hg
          rw [fine_one] at hf
          simp only [Bool.and_eq_true] at hf
          exact hf.2
        · rw [fine_grp _ _ _ _ hg] at hf
          simp only [Bool.and_eq_true] at hf
          exact hf.2
      have hterm : ∀ q : List UInt8, Behind q → rdT at_ (f + 1) d (headW c g ++ timesW n ++ q) = some ((n, c, g), q) := by
        intro q hq
        by_cases hg : g = .nil
        · subst hg
          rw [fine_one] at hf
          simp only [Bool.and_eq_true] at hf
          obtain ⟨k1, k2, k3⟩ := cell_ok hf.1.2
          obtain ⟨x, w, e, hx⟩ := text_no40 hf.1.2 (timesW n ++ q)
          show rdT at_ (f + 1) d (textL [c] ++ timesW n ++ q) = _
          rw [List.append_assoc, e, rdT_cell _ _ _ hx, ← e, until_word k2 (times_stop hq)]
          simp only
          rw [parse_text k1]
          exact rdN_text hat hn.1 hn.2 hq
        · rw [head_grp hg]
          rw [fine_grp _ _ _ _ hg] at hf
          simp only [Bool.and_eq_true, decide_eq_true_eq] at hf
          obtain ⟨⟨⟨_, hc⟩, hfg⟩, _⟩ := hf
          have e : 40 :: (wT g ++ [41]) ++ timesW n ++ q = 40 :: (wT g ++ (41 :: (timesW n ++ q))) := by simp
          rw [e, rdT, if_neg (by omega)]
          rw [ih g (by omega) hg hfg (d + 1) f (by omega) (by omega) (41 :: (timesW n ++ q)) (.inr ⟨_, rfl⟩)]
          simp only
          rw [hc]
          exact rdN_text hat hn.1 hn.2 hq
      by_cases hr : r = .nil
      · subst hr
        rw [wT_one, rdL, hterm s (by rcases hb with rfl | ⟨x, rfl⟩; exact .inl rfl; exact .inr ⟨x, .inr rfl⟩)]
        rcases hb with rfl | ⟨x, rfl⟩ <;> rfl
      · rw [wT_cons _ _ _ _ hr]
        have e : headW c g ++ timesW n ++ 32 :: wT r ++ s = headW c g ++ timesW n ++ (32 :: (wT r ++ s)) := by simp
        rw [e, rdL, hterm _ (.inr ⟨_, .inl rfl⟩)]
        simp only
        rw [ih r (by omega) hr hfr d (f + 1) (by omega) (by omega) s hb]
        rfl
end Go.Proofs.YtfbfkoeaihknoaaGreatDoor
/- Parse of terms in plain Lean: it accepts just the texts of valid lists. -/
namespace Go.Proofs.YtfbfkoeaihknoaaGreatDoor
set_option maxRecDepth 100000
theorem wT_len : ∀ {t : Tms}, fineT t = true → t.size ≤ (wT t).length := by
  intro t
  induction t with
  | nil => intro _; simp [Tms.size]
  | cons n c g r ih1 ih2 =>
    intro h
    have hh : g.size + 1 ≤ (headW c g).length ∧ fineT r = true := by
      by_cases hg : g = .nil
      · subst hg
        rw [fine_one] at h
        simp only [Bool.and_eq_true] at h
        have h3 := (cell_ok h.1.2).2.2
        refine ⟨?_, h.2⟩
        show 0 + 1 ≤ (textL [c]).length
        have := List.length_pos_iff.2 h3
        omega
      · rw [fine_grp _ _ _ _ hg] at h
        simp only [Bool.and_eq_true] at h
        refine ⟨?_, h.2⟩
        rw [head_grp hg]
        have := ih1 h.1.2
        simp only [List.length_cons, List.length_append, List.length_nil]
        omega
    rw [Tms.size]
    by_cases hr : r = .nil
    · subst hr
      rw [wT_one, List.length_append]
      simp only [Tms.size]
      omega
    · rw [wT_cons _ _ _ _ hr, List.length_append, List.length_append, List.length_cons]
      have := ih2 hh.2
      omega
theorem wT_ne {t : Tms} (h : fineT t = true) (h0 : t ≠ .nil) : wT t ≠ [] := by
  intro e
  have h1 := wT_len h
  have h2 := size_pos h0
  rw [e] at h1
  simp at h1
  omega
/-- what the reader returns -/
def readT (at_ : List UInt8 → Option Int) (s : List UInt8) : Option Tms := if s = [] then some .nil else match rdL at_ (2 * s.length + 2) 0 s with
  | some (t, []) => some t
  | _ => none
/-- what Text of terms returns -/
def ttextE (t : Tms) : Int := if tchkE t ≠ 0 then tchkE t else if 3000 < (wT t).length then 4 else 0
def ttextV (t : Tms) : List UInt8 := if ttextE t = 0 then wT t else []
def parseT (at_ : List UInt8 → Option Int) (s : List UInt8) : Option Tms := if 3000 < s.length then none else (readT at_ s).bind fun t => if ttextE t = 0 ∧ ttextV t = s then some t else none
theorem tchk_parts {t : Tms} (h : tchkE t = 0) : t.size ≤ 200 ∧ t.depth ≤ 8 ∧ fineT t = true := by
  unfold tchkE at h
  split at h
  · cases h
  · split at h
    · rename_i h1 h2
      exact ⟨by omega, by omega, h2⟩
    · cases h
theorem read_text {at_ : List UInt8 → Option Int} (hat : ∀ k : Nat, 2 ≤ k → k ≤ 200 → at_ (decD k) = some (k : Int)) {t : Tms} (h : tchkE t = 0) : readT at_ (wT t) = some t := by
  obtain ⟨h1, h2, h3⟩ := tchk_parts h
  by_cases h0 : t = .nil
  · subst h0
    rfl
  · rw [readT, if_neg (wT_ne h3 h0)]
    have h4 := wT_len h3
    have h5 := rd_text hat t.size t (Nat.le_refl _) h0 h3 0 (2 * (wT t).length + 2) (by omega) (by omega) [] (.inl rfl)
    rw [List.append_nil] at h5
    rw [h5]
theorem ttext_ok {t : Tms} {s : List UInt8} (hs : s.length ≤ 3000) : (ttextE t = 0 ∧ ttextV t = s) ↔ (tchkE t = 0 ∧ wT t = s) := by
  constructor
  · rintro ⟨h1, h2⟩
    rw [ttextV, if_pos h1] at h2
    refine ⟨?_, h2⟩
    unfold ttextE at h1
    split at h1
    · exact h1
    · rename_i h3
      simpa using h3
  · rintro ⟨h1, rfl⟩
    have h3 : ttextE t = 0 := by rw [ttextE, if_neg (by simpa using h1), if_neg (by omega)]
    exact ⟨h3, by rw [ttextV, if_pos h3]⟩
theorem parseT_iff {at_ : List UInt8 → Option Int} (hat : ∀ k : Nat, 2 ≤ k → k ≤ 200 → at_ (decD k) = some (k : Int)) {s : List UInt8} {t : Tms} : parseT at_ s = some t ↔ s.length ≤ 3000 ∧ tchkE t = 0 ∧ wT t = s := by
  constructor
  · intro h
    unfold parseT at h
    split at h
    · cases h
    · rename_i hs
      obtain ⟨t', _, h3⟩ := Option.bind_eq_some_iff.1 h
      split at h3
      · rename_i h4
        cases h3
        exact ⟨by omega, (ttext_ok (by omega)).1 h4⟩
      · cases h3
  · rintro ⟨h1, h2, rfl⟩
    rw [parseT, if_neg (by omega), read_text hat h2, Option.bind_some, if_pos ((ttext_ok h1).2 ⟨h2, rfl⟩)]
end Go.Proofs.YtfbfkoeaihknoaaGreatDoor
/- The other side of a stitch and of a list of stitches, in plain Lean. -/
namespace Go.Proofs.YtfbfkoeaihknoaaGreatDoor
set_option maxRecDepth 100000
/-- the other side -/
def otherSt (s : St) : St := ⟨s.k, fsd s.k && !s.p, if s.k = 6 ∨ s.k = 7 then s.b else s.a, if s.k = 6 ∨ s.k = 7 then s.a else s.b⟩
def turnL (l : List St) : List St := (l.reverse).map otherSt
theorem turnL_app (a b : List St) : turnL (a ++ b) = turnL b ++ turnL a := by simp [turnL]
theorem turnL_len (l : List St) : (turnL l).length = l.length := by simp [turnL]
theorem okSt_low {s : St} (h : okSt s = true) (hk : s.k = 2 ∨ s.k = 9) : s.p = false := by
  have h4 := (ok_e h).2.2.2
  have : fsd s.k = false := by rcases hk with e | e <;> rw [e] <;> decide
  rw [this] at h4
  simpa using h4
theorem turnL_cons (s : St) (l : List St) : turnL (s :: l) = turnL l ++ [otherSt s] := by simp [turnL]
theorem turnL_drop {l : List St} {k : Nat} (h : k < l.length) : turnL (l.drop k) = turnL (l.drop (k + 1)) ++ [otherSt (l.getD k st0)] := by
  rw [← turnL_cons]
  congr 1
  rw [List.getD_eq_getElem?_getD, List.getElem?_eq_getElem h]
  exact List.drop_eq_getElem_cons h
end Go.Proofs.YtfbfkoeaihknoaaGreatDoor
/- The reference's Parse of stitches in plain Lean: it reads what Parse reads. -/
namespace Go.Proofs.YtfbfkoeaihknoaaGreatDoor
set_option maxRecDepth 100000
/-- a number of at most four digits, without zeros in front -/
def numS (l : List UInt8) : Option Nat :=
  if l.length = 0 ∨ 4 < l.length ∨ (1 < l.length ∧ l.head? = some 48) then none else if l.all isDg then some (valD l) else none
/-- the kind with a letter, 0 if there is none -/
def kindR (c : UInt8) : Int := if c = 102 then 3 else if c = 108 then 4 else if c = 109 then 5 else if c = 120 then 6 else if c = 121 then 7 else if c = 115 then 8 else if c = 111 then 10 else 0
/-- what the reference reads of the parts behind the letter -/
def refParts (k : Int) (p : Bool) (parts : List (List UInt8)) : Option (List St) :=
  if k = 6 ∨ k = 7 then
    if parts.length = 2 then (numS (parts.getD 1 [])).bind fun b => (numS (parts.getD 0 [])).bind fun a => some [⟨k, p, a, b⟩] else none
  else if k ≠ 0 ∧ parts.length = 1 then (numS (parts.getD 0 [])).bind fun a => some [⟨k, p, a, 0⟩] else none
def refWord : List UInt8 → Option (List St)
  | [] => none
  | c :: rest =>
    if c = 121 ∧ rest = [111] then some [⟨2, false, 0, 0⟩]
    else if 1 < rest.length ∧ c = 111 ∧ rest.head? = some 110 then (numS rest.tail).bind fun a => some [⟨9, false, a, 0⟩]
    else if ¬ (c = 107 ∨ c = 112) then none
    else match rest with
      | [] => some [⟨1, decide (c = 112), 0, 0⟩]
      | d :: r => match numS (d :: r) with
        | some n => if 1 < n then some (List.replicate (min n 300) ⟨1, decide (c = 112), 0, 0⟩) else none
        | none => if kindR d = 8 then (if r = [] then some [⟨8, decide (c = 112), 0, 0⟩] else none) else refParts (kindR d) (decide (c = 112)) (spl 47 r)
def rparseGo : List St → List (List UInt8) → Option (List St)
  | acc, [] => some acc
  | acc, w :: ws => match refWord w with
    | none => none
    | some l => if 200 < (acc ++ l).length then none else rparseGo (acc ++ l) ws
def rparseW (s : List UInt8) : Option (List St) := if s = [] then some [] else rparseGo [] (spl 32 s)
def rparseL (s : List UInt8) : Option (List St) :=
  if 3000 < s.length then none else (rparseW s).bind fun l => if allE l = 0 ∧ textL l = s then some l else none
def rwordOk (s : St) : Bool := decide (refWord (wordT s) = some [s])
theorem rwords_ok : allSt.all rwordOk = true := by decide +kernel
def rrunOk (n : Nat) : Bool := [false, true].all (fun p => decide (refWord (wordG (⟨1, p, 0, 0⟩, n + 2)) = some (List.replicate (n + 2) ⟨1, p, 0, 0⟩)))
theorem rruns_ok : (List.range 199).all rrunOk = true := by decide +kernel
theorem ref_word {s : St} {n : Nat} (h : okSt s = true) (h1 : 1 ≤ n) (h2 : n ≤ 200) (h3 : n = 1 ∨ s.k = 1) : refWord (wordG (s, n)) = some (List.replicate n s) := by
  rcases Nat.lt_or_ge 1 n with hn | hn
  · have hk : s.k = 1 := by rcases h3 with h3 | h3; · omega
                            · exact h3
    obtain ⟨hk1, ha, hb, hp⟩ := ok_e h
    rw [hk] at ha hb
    have ha := inR_e ha
    have hb := inR_e hb
    simp [fa0, fa1, fb0, fb1] at ha hb
    obtain ⟨k, p, a, b⟩ := s
    simp only at hk ha hb
    subst hk
    obtain rfl : a = 0 := by omega
    obtain rfl : b = 0 := by omega
    obtain ⟨m, rfl⟩ : ∃ m, n = m + 2 := ⟨n - 2, by omega⟩
    have h5 := List.all_eq_true.1 rruns_ok m (List.mem_range.2 (by omega))
    have h6 := List.all_eq_true.1 h5 p (by cases p <;> simp)
    exact of_decide_eq_true h6
  · obtain rfl : n = 1 := by omega
    have h5 := List.all_eq_true.1 rwords_ok s (mem_allSt h)
    have e : wordG (s, 1) = wordT s := by simp [wordG]
    rw [e]
    exact of_decide_eq_true h5
theorem rparseGo_words {gs : List (St × Nat)} : ∀ {acc : List St}, (∀ x ∈ gs, refWord (wordG x) = some (List.replicate x.2 x.1)) → acc.length + (gs.map (·.2)).sum ≤ 200 →
    rparseGo acc (gs.map wordG) = some (acc ++ gs.flatMap (fun x => List.replicate x.2 x.1)) := by
  induction gs with
  | nil => intro acc _ _; simp [rparseGo]
  | cons x gs ih =>
    intro acc h hs
    have hf := h x (by simp)
    simp only [List.map_cons, List.sum_cons] at hs
    rw [List.map_cons, rparseGo, hf]
    simp only
    rw [if_neg (by simp; omega)]
    rw [ih (fun y hy => h y (by simp [hy])) (by simp; omega)]
    simp
theorem rparse_text {l : List St} (h : allE l = 0) : rparseL (textL l) = some l := by
  have hs := text_short h
  rw [rparseL, if_neg (by omega)]
  have hw : rparseW (textL l) = some l := by
    rcases List.eq_nil_or_concat l with rfl | ⟨l', x, e⟩
    · rfl
    · have hl : l ≠ [] := by rw [e]; simp
      have hne : textL l ≠ [] := join_ne (by simpa using grp_ne hl) (fun w hw => by
        obtain ⟨x, hx, rfl⟩ := List.mem_map.1 hw
        exact (grp_fine h hx).long)
      obtain ⟨g1, g2, _, _⟩ := allE_e h
      rw [rparseW, if_neg hne, text_spl h hl, rparseGo_words (fun y hy => by
        obtain ⟨m1, m2, m3⟩ := grp_mem hy
        have h4 := le_sum hy
        rw [grp_sum] at h4
        exact ref_word (List.all_eq_true.1 g2 _ m1) m2 (by omega) m3) (by rw [grp_sum]; simp; omega), grp_expand]
      simp
  rw [hw, Option.bind_some, if_pos ⟨h, rfl⟩]
theorem rparse_iff {s : List UInt8} {l : List St} : rparseL s = some l ↔ s.length ≤ 3000 ∧ allE l = 0 ∧ textL l = s := by
  constructor
  · intro h
    unfold rparseL at h
    split at h
    · cases h
    · obtain ⟨l', h1, h2⟩ := Option.bind_eq_some_iff.1 h
      split at h2
      · rename_i h3
        cases h2
        exact ⟨by omega, h3⟩
      · cases h2
  · rintro ⟨h1, h2, rfl⟩
    exact rparse_text h2
/-- both read the same -/
theorem rparse_eq (s : List UInt8) : rparseL s = parseL s := by
  apply Option.ext
  intro l
  rw [rparse_iff, parse_iff]
def othOk (s : St) : Bool := okSt (otherSt s) && decide (otherSt (otherSt s) = s) && decide (usV (otherSt s) = usV s) && decide (mkV (otherSt s) = mkV s)
theorem oths_ok : allSt.all othOk = true := by decide +kernel
theorem other_ok {s : St} (h : okSt s = true) : okSt (otherSt s) = true ∧ otherSt (otherSt s) = s ∧ usV (otherSt s) = usV s ∧ mkV (otherSt s) = mkV s := by
  have h5 := List.all_eq_true.1 oths_ok s (mem_allSt h)
  simp only [othOk, Bool.and_eq_true, decide_eq_true_eq] at h5
  exact ⟨h5.1.1.1, h5.1.1.2, h5.1.2, h5.2⟩
theorem usL_app (a b : List St) : usL (a ++ b) = usL a + usL b := by simp [usL]
theorem mkL_app (a b : List St) : mkL (a ++ b) = mkL a + mkL b := by simp [mkL]
theorem allB_app (a b : List St) : allB (a ++ b) = (allB a && allB b) := by simp [allB]
theorem turn_facts {l : List St} (h : allB l = true) : allB (turnL l) = true ∧ turnL (turnL l) = l ∧ usL (turnL l) = usL l ∧ mkL (turnL l) = mkL l := by
  induction l with
  | nil => exact ⟨rfl, rfl, rfl, rfl⟩
  | cons s l ih =>
    have e : s :: l = [s] ++ l := rfl
    rw [e, allB_app, Bool.and_eq_true] at h
    obtain ⟨i1, i2, i3, i4⟩ := ih h.2
    obtain ⟨o1, o2, o3, o4⟩ := other_ok (s := s) (by simpa [allB] using h.1)
    rw [e, turnL_app, allB_app, turnL_app, i1, i2, usL_app, mkL_app, usL_app, mkL_app, i3, i4]
    have t1 : turnL [s] = [otherSt s] := rfl
    rw [t1]
    refine ⟨by simp [allB, o1], by simp [turnL, o2], ?_, ?_⟩
    · simp only [usL, List.map_cons, List.map_nil, List.sum_cons, List.sum_nil, o3]; omega
    · simp only [mkL, List.map_cons, List.map_nil, List.sum_cons, List.sum_nil, o4]; omega
theorem turn_all {l : List St} (h : allE l = 0) : allE (turnL l) = 0 := by
  obtain ⟨h1, h2, h3, h4⟩ := allE_e h
  obtain ⟨t1, _, t3, t4⟩ := turn_facts h2
  exact allE_ok (by rw [turnL_len]; omega) t1 (by rw [t3, t4]; omega)
theorem sum_nonneg {l : List St} (h : allB l = true) : 0 ≤ usL l ∧ 0 ≤ mkL l := by
  have := sums_bd h l.length (Nat.le_refl _)
  rw [List.take_of_length_le (Nat.le_refl _)] at this
  omega
/-- parts of a valid list are valid -/
theorem part_all {a b : List St} (h : allE (a ++ b) = 0) : allE a = 0 ∧ allE b = 0 := by
  obtain ⟨h1, h2, h3, h4⟩ := allE_e h
  rw [allB_app, Bool.and_eq_true] at h2
  rw [usL_app] at h3
  rw [mkL_app] at h4
  rw [List.length_append] at h1
  have n1 := sum_nonneg h2.1
  have n2 := sum_nonneg h2.2
  exact ⟨allE_ok (by omega) h2.1 (by omega), allE_ok (by omega) h2.2 (by omega)⟩
end Go.Proofs.YtfbfkoeaihknoaaGreatDoor
/- The reference's Parse of terms in plain Lean: it reads what Parse reads. -/
namespace Go.Proofs.YtfbfkoeaihknoaaGreatDoor
set_option maxRecDepth 100000
/-- what stands up to the end of a word or a group, and what is behind -/
def endP : Int → List UInt8 → List UInt8 × List UInt8
  | _, [] => ([], [])
  | o, x :: l =>
    let o2 := o + (if x = 40 then 1 else 0) - (if x = 41 then 1 else 0)
    if o2 < 0 ∨ (o2 = 0 ∧ x = 32) then ([], x :: l) else (x :: (endP o2 l).1, (endP o2 l).2)
/-- the digits at the end of a string, and what is ahead of them -/
def cutD (s : List UInt8) : List UInt8 × List UInt8 := ((s.reverse.dropWhile isDg).reverse, (s.reverse.takeWhile isDg).reverse)
mutual
def rlL : Nat → Nat → Nat → List UInt8 → Option Tms
  | 0, _, _, _ => none
  | f + 1, d, k, s => match rlT f d (endP 0 s).1 with
    | none => none
    | some (n, c, g) => if 200 < k then none else match (endP 0 s).2 with
      | [] => some (.cons n c g .nil)
      | x :: s2 => if x = 32 then (rlL f d (k + 1) s2).map fun r => .cons n c g r else none
def rlT : Nat → Nat → List UInt8 → Option (Int × St × Tms)
  | 0, _, _ => none
  | f + 1, d, s =>
    if (cutD s).1 ≠ [] ∧ (cutD s).2 ≠ [] ∧ (cutD s).1.getLast? = some 42 then match numS (cutD s).2 with
      | none => none
      | some n => if n < 2 then none else rlB f d (n : Int) (cutD s).1.dropLast
    else rlB f d 1 s
def rlB : Nat → Nat → Int → List UInt8 → Option (Int × St × Tms)
  | 0, _, _, _ => none
  | f + 1, d, n, s =>
    if 1 < s.length ∧ s.getD 0 0 = 40 ∧ s.getLast? = some 41 ∧ 0 < d then
      (if (s.drop 1).dropLast = [] then none else (rlL f (d - 1) 0 (s.drop 1).dropLast).map fun g => (n, st0, g))
    else match parseL s with
      | some [c] => some (n, c, .nil)
      | _ => none
end
/-- a string that is passed over -/
def Pass (o : Int) (w : List UInt8) : Prop := ∀ q, endP o (w ++ q) = (w ++ (endP o q).1, (endP o q).2)
theorem Pass.app {o : Int} {a b : List UInt8} (h : Pass o a) (k : Pass o b) : Pass o (a ++ b) := fun q => by
  rw [List.append_assoc, h, k]
  simp
theorem Pass.nil (o : Int) : Pass o [] := fun _ => rfl
theorem Pass.byte {o : Int} {x : UInt8} (h0 : 0 ≤ o) (h1 : x ≠ 32) (h2 : x ≠ 40) (h3 : x ≠ 41) : Pass o [x] := fun q => by
  show endP o (x :: q) = _
  rw [endP]
  simp only [h2, h3, if_false]
  rw [if_neg (by rintro (h | h); omega; exact h1 h.2)]
  simp
theorem Pass.word {o : Int} {w : List UInt8} (h0 : 0 ≤ o) (h : ∀ x ∈ w, x ≠ 32 ∧ x ≠ 40 ∧ x ≠ 41) : Pass o w := by
  induction w with
  | nil => exact Pass.nil o
  | cons x w ih =>
    obtain ⟨h1, h2, h3⟩ := h x (by simp)
    exact Pass.app (a := [x]) (Pass.byte h0 h1 h2 h3) (ih fun y hy => h y (by simp [hy]))
theorem Pass.space {o : Int} (h0 : 1 ≤ o) : Pass o [32] := fun q => by
  show endP o (32 :: q) = _
  rw [endP]
  simp only [show ((32 : UInt8) = 40) = False by simp, show ((32 : UInt8) = 41) = False by simp, if_false]
  rw [if_neg (by rintro (h | h) <;> omega)]
  simp
theorem Pass.grp {o : Int} {w : List UInt8} (h0 : 0 ≤ o) (h : Pass (o + 1) w) : Pass o (40 :: (w ++ [41])) := fun q => by
  show endP o (40 :: (w ++ [41] ++ q)) = _
  rw [endP]
  simp only [show ((40 : UInt8) = 41) = False by simp, if_false, if_true]
  rw [if_neg (by rintro (h | h); omega; exact absurd h.2 (by decide)), Int.sub_zero, List.append_assoc, h]
  have e : endP (o + 1) ([41] ++ q) = (41 :: (endP o q).1, (endP o q).2) := by
    show endP (o + 1) (41 :: q) = _
    rw [endP]
    simp only [show ((41 : UInt8) = 40) = False by simp, if_false, if_true]
    rw [show o + 1 + 0 - 1 = o by omega, if_neg (by rintro (h | h); omega; exact absurd h.2 (by decide))]
  rw [e]
  simp
theorem stop_ne {x : UInt8} (h : isStop x = false) : x ≠ 32 ∧ x ≠ 40 ∧ x ≠ 41 ∧ x ≠ 42 := by
  refine ⟨?_, ?_, ?_, ?_⟩ <;> (rintro rfl; simp [isStop] at h)
theorem times_pass {n : Int} (h : n ≤ 200) {o : Int} (h0 : 0 ≤ o) : Pass o (timesW n) := by
  unfold timesW
  split
  · refine Pass.word h0 fun x hx => ?_
    rcases List.mem_cons.1 hx with rfl | hx
    · decide
    · obtain ⟨h1, h2, h3, _⟩ := stop_ne (dig_ok (by omega) x hx)
      exact ⟨h1, h2, h3⟩
  · exact Pass.nil o
theorem fine_parts {n : Int} {c : St} {g r : Tms} (h : fineT (.cons n c g r) = true) : (1 ≤ n ∧ n ≤ 200) ∧ fineT g = true ∧ fineT r = true ∧ (g = .nil → okSt c = true) ∧ (g ≠ .nil → c = st0) := by
  by_cases hg : g = .nil
  · subst hg
    rw [fine_one] at h
    simp only [Bool.and_eq_true] at h
    exact ⟨inR_e h.1.1, rfl, h.2, fun _ => h.1.2, fun h9 => absurd rfl h9⟩
  · rw [fine_grp _ _ _ _ hg] at h
    simp only [Bool.and_eq_true, decide_eq_true_eq] at h
    exact ⟨inR_e h.1.1.1, h.1.2, h.2, fun h9 => absurd h9 hg, fun _ => h.1.1.2⟩
/-- within a group the whole text is passed over; a term always -/
theorem text_pass : ∀ (M : Nat) (t : Tms), t.size ≤ M → fineT t = true → ∀ o : Int, 1 ≤ o → Pass o (wT t) := by
  intro M
  induction M with
  | zero =>
    intro t h _ o _
    cases t with
    | nil => exact Pass.nil o
    | cons n c g r => simp [Tms.size] at h
  | succ M ih =>
    intro t h hf o ho
    cases t with
    | nil => exact Pass.nil o
    | cons n c g r =>
      simp only [Tms.size] at h
      obtain ⟨hn, hg, hr, hc, _⟩ := fine_parts hf
      have hh : Pass o (headW c g) := by
        by_cases h0 : g = .nil
        · subst h0
          refine Pass.word (w := textL [c]) (by omega) fun x hx => ?_
          obtain ⟨h1, h2, h3, _⟩ := stop_ne ((cell_ok (hc rfl)).2.1 x hx)
          exact ⟨h1, h2, h3⟩
        · rw [head_grp h0]
          exact Pass.grp (by omega) (ih g (by omega) hg (o + 1) (by omega))
      by_cases h0 : r = .nil
      · subst h0
        rw [wT_one]
        exact hh.app (times_pass hn.2 (by omega))
      · rw [wT_cons _ _ _ _ h0]
        exact (hh.app (times_pass hn.2 (by omega))).app (Pass.app (a := [32]) (Pass.space ho) (ih r (by omega) hr o ho))
theorem term_pass {n : Int} {c : St} {g r : Tms} (hf : fineT (.cons n c g r) = true) : Pass 0 (headW c g ++ timesW n) := by
  obtain ⟨hn, hg, hr, hc, _⟩ := fine_parts hf
  refine Pass.app ?_ (times_pass hn.2 (by omega))
  by_cases h0 : g = .nil
  · subst h0
    refine Pass.word (w := textL [c]) (by omega) fun x hx => ?_
    obtain ⟨h1, h2, h3, _⟩ := stop_ne ((cell_ok (hc rfl)).2.1 x hx)
    exact ⟨h1, h2, h3⟩
  · rw [head_grp h0]
    exact Pass.grp (by omega) (text_pass _ g (Nat.le_refl _) hg 1 (by omega))
theorem end_space (q : List UInt8) : endP 0 (32 :: q) = ([], 32 :: q) := by
  rw [endP]
  simp
theorem cutD_all (s : List UInt8) : (cutD s).1 ++ (cutD s).2 = s := by
  unfold cutD
  rw [← List.reverse_append, List.takeWhile_append_dropWhile, List.reverse_reverse]
theorem cutD_at {a d : List UInt8} {x : UInt8} (hx : isDg x = false) (hd : ∀ y ∈ d, isDg y = true) : cutD (a ++ x :: d) = (a ++ [x], d) := by
  unfold cutD
  have e : (a ++ x :: d).reverse = d.reverse ++ (x :: a.reverse) := by simp
  rw [e]
  have h1 : (d.reverse ++ (x :: a.reverse)).takeWhile isDg = d.reverse := by
    rw [List.takeWhile_append_of_pos (by intro y hy; exact hd y (by simpa using hy)), List.takeWhile_cons, hx]
    simp
  have h2 : (d.reverse ++ (x :: a.reverse)).dropWhile isDg = x :: a.reverse := by
    rw [List.dropWhile_append_of_pos (by intro y hy; exact hd y (by simpa using hy)), List.dropWhile_cons, hx]
    simp
  rw [h1, h2]
  simp
def dgOk (n : Nat) : Bool := (decD n).all isDg && decide (numS (decD n) = some n) && !(decD n).isEmpty
theorem dgs_ok : (List.range 201).all dgOk = true := by decide +kernel
theorem dg_ok {n : Nat} (h : n ≤ 200) : (∀ y ∈ decD n, isDg y = true) ∧ numS (decD n) = some n ∧ decD n ≠ [] := by
  have h1 := List.all_eq_true.1 dgs_ok n (List.mem_range.2 (by omega))
  simp only [dgOk, Bool.and_eq_true, decide_eq_true_eq, List.all_eq_true, Bool.not_eq_true', List.isEmpty_eq_false_iff] at h1
  exact ⟨h1.1.1, h1.1.2, h1.2⟩
theorem rlB_cell {f d : Nat} {n : Int} {c : St} (h : okSt c = true) : rlB (f + 1) d n (textL [c]) = some (n, c, .nil) := by
  obtain ⟨h1, h2, h3⟩ := cell_ok h
  obtain ⟨x, r, e, hx⟩ := text_no40 h []
  rw [List.append_nil] at e
  rw [rlB, if_neg, parse_text h1]
  rintro ⟨_, h9, _⟩
  rw [e, List.getD_cons_zero] at h9
  exact (stop_ne hx).2.1 h9
theorem rlB_grp {f d : Nat} {n : Int} {g : Tms} (h0 : wT g ≠ []) (hd : 0 < d) (h : rlL f (d - 1) 0 (wT g) = some g) : rlB (f + 1) d n (40 :: (wT g ++ [41])) = some (n, st0, g) := by
  have e : ((40 :: (wT g ++ [41])).drop 1).dropLast = wT g := by simp
  have hl : (40 :: (wT g ++ [41])).getLast? = some 41 := by
    rw [List.getLast?_cons, List.getLast?_append]
    rfl
  rw [rlB, if_pos ⟨by simp, rfl, hl, hd⟩, e, if_neg h0, h]
  rfl
theorem rlT_text {f d : Nat} {n : Int} {c : St} {g r : Tms} (hf : fineT (.cons n c g r) = true) (hb : ∀ m : Int, rlB f d m (headW c g) = some (m, c, g)) : rlT (f + 1) d (headW c g ++ timesW n) = some (n, c, g) := by
  obtain ⟨hn, hg, hr, hc, _⟩ := fine_parts hf
  unfold timesW
  by_cases h1 : 1 < n
  · rw [if_pos h1]
    obtain ⟨d1, d2, d3⟩ := dg_ok (n := n.toNat) (by omega)
    rw [rlT, cutD_at (by decide) d1, if_pos ⟨by simp, d3, by simp⟩, d2]
    simp only
    rw [if_neg (by omega), List.dropLast_concat, hb]
    have e : ((n.toNat : Nat) : Int) = n := by omega
    rw [e]
  · rw [if_neg h1, List.append_nil]
    have e1 : n = 1 := by omega
    subst e1
    rw [rlT, if_neg, hb]
    rintro ⟨k1, k2, k3⟩
    by_cases h0 : g = .nil
    · subst h0
      have hm : (42 : UInt8) ∈ textL [c] := by
        have h9 := cutD_all (textL [c])
        rw [← h9]
        exact List.mem_append_left _ (List.mem_of_getLast? k3)
      exact (stop_ne ((cell_ok (hc rfl)).2.1 42 hm)).2.2.2 rfl
    · rw [head_grp h0] at k2
      have h9 := cutD_at (a := 40 :: wT g) (d := []) (x := 41) (by decide) (by simp)
      rw [List.cons_append] at h9
      rw [h9] at k2
      exact k2 rfl
/-- what is written is read -/
theorem cnt_sizeV : ∀ (t : Tms), t.cnt ≤ t.size := by
  intro t
  induction t with
  | nil => exact Nat.le_refl _
  | cons n c g r _ ih2 => simp only [Tms.cnt, Tms.size]; omega
theorem rl_text : ∀ (M : Nat) (t : Tms), M ≤ 200 → t.size ≤ M → t ≠ .nil → fineT t = true → ∀ (d f k : Nat), t.depth ≤ d + 1 → 3 * t.size ≤ f → k + t.cnt ≤ 201 → rlL f d k (wT t) = some t := by
  intro M
  induction M with
  | zero =>
    intro t _ h h0
    have := size_pos h0
    omega
  | succ M ih =>
    intro t hM hs h0 hf d f k hd hfl hk
    cases t with
    | nil => exact absurd rfl h0
    | cons n c g r =>
      simp only [Tms.size] at hs hfl
      simp only [Tms.depth] at hd
      simp only [Tms.cnt] at hk
      obtain ⟨f, rfl⟩ : ∃ j, f = j + 3 := ⟨f - 3, by omega⟩
      obtain ⟨hn, hg, hr, hc, hc0⟩ := fine_parts hf
      have hT : rlT (f + 2) d (headW c g ++ timesW n) = some (n, c, g) := by
        refine rlT_text hf fun m => ?_
        by_cases hg0 : g = .nil
        · subst hg0
          exact rlB_cell (hc rfl)
        · rw [head_grp hg0, hc0 hg0]
          have hgd : 1 ≤ g.depth := by
            cases g with
            | nil => exact absurd rfl hg0
            | cons => simp [Tms.depth]; omega
          refine rlB_grp (wT_ne hg hg0) (by omega) (ih g (by omega) (by omega) hg0 hg (d - 1) f 0 (by omega) (by omega) (by have := cnt_sizeV g; omega))
      by_cases hr0 : r = .nil
      · subst hr0
        have hp := term_pass hf []
        rw [List.append_nil] at hp
        have e0 : endP 0 [] = ([], []) := rfl
        rw [e0, List.append_nil] at hp
        rw [wT_one, rlL, hp, hT]
        simp only
        rw [if_neg (by omega)]
      · have hp := term_pass hf (32 :: wT r)
        rw [end_space, List.append_nil] at hp
        rw [wT_cons _ _ _ _ hr0, rlL, hp, hT]
        simp only
        rw [if_neg (by omega), if_pos trivial, ih r (by omega) (by omega) hr0 hr d (f + 2) (k + 1) (by omega) (by omega) (by omega)]
        rfl
/-- what the reference's Parse returns -/
def rparseT (s : List UInt8) : Option Tms := if 3000 < s.length then none else
  (if s = [] then some Tms.nil else rlL (3 * s.length + 3) 8 0 s).bind fun t => if tchkE t = 0 ∧ wT t = s then some t else none
theorem rparseT_iff {s : List UInt8} {t : Tms} : rparseT s = some t ↔ s.length ≤ 3000 ∧ tchkE t = 0 ∧ wT t = s := by
  constructor
  · intro h
    unfold rparseT at h
    split at h
    · cases h
    · obtain ⟨t', _, h3⟩ := Option.bind_eq_some_iff.1 h
      split at h3
      · rename_i h4
        cases h3
        exact ⟨by omega, h4⟩
      · cases h3
  · rintro ⟨h1, h2, rfl⟩
    rw [rparseT, if_neg (by omega)]
    obtain ⟨g1, g2, g3⟩ := tchk_parts h2
    by_cases h0 : t = .nil
    · subst h0
      rw [if_pos (show wT Tms.nil = [] from rfl), Option.bind_some, if_pos ⟨h2, rfl⟩]
    · have hl := wT_len g3
      have hc := cnt_sizeV t
      rw [if_neg (wT_ne g3 h0), rl_text 200 t (Nat.le_refl _) g1 h0 g3 8 _ 0 (by omega) (by omega) (by omega), Option.bind_some, if_pos ⟨h2, rfl⟩]
/-- both read the same -/
theorem rparseT_eq {at_ : List UInt8 → Option Int} (hat : ∀ k : Nat, 2 ≤ k → k ≤ 200 → at_ (decD k) = some (k : Int)) (s : List UInt8) : rparseT s = parseT at_ s := by
  apply Option.ext
  intro t
  rw [rparseT_iff, parseT_iff hat]
end Go.Proofs.YtfbfkoeaihknoaaGreatDoor
/- The reference's reader of terms, plain: what its steps do. -/
namespace Go.Proofs.YtfbfkoeaihknoaaGreatDoor
set_option maxRecDepth 100000
theorem app_nilR : ∀ t : Tms, t.app .nil = t := by
  intro t
  induction t with
  | nil => rfl
  | cons n c g r _ ih => simp only [Tms.app, ih]
theorem app_assocR : ∀ a b c : Tms, (a.app b).app c = a.app (b.app c) := by
  intro a
  induction a with
  | nil => intros; rfl
  | cons n c g r _ ih => intro b c; simp only [Tms.app, ih]
theorem app_cntR : ∀ (t r : Tms), (t.app r).cnt = t.cnt + r.cnt := by
  intro t r
  induction t with
  | nil => simp [Tms.app, Tms.cnt]
  | cons n c g q _ ih => simp only [Tms.app, Tms.cnt, ih]; omega
theorem endP_app : ∀ (s : List UInt8) (o : Int), (endP o s).1 ++ (endP o s).2 = s := by
  intro s
  induction s with
  | nil => intro o; rfl
  | cons x l ih =>
    intro o
    rw [endP]
    generalize o + (if x = 40 then (1 : Int) else 0) - (if x = 41 then (1 : Int) else 0) = q
    by_cases h : q < 0 ∨ (q = 0 ∧ x = 32)
    · rw [if_pos h]
      rfl
    · rw [if_neg h]
      simp [ih]
theorem take_one {s : List UInt8} {j : Nat} (h0 : 0 < j) (hj : j ≤ s.length) : s.take j = s.take (j - 1) ++ [s.getD (j - 1) 0] := by
  obtain ⟨k, rfl⟩ : ∃ k, j = k + 1 := ⟨j - 1, by omega⟩
  rw [Nat.add_sub_cancel, List.take_add_one, List.getElem?_eq_getElem (by omega), List.getD_eq_getElem?_getD, List.getElem?_eq_getElem (by omega)]
  rfl
theorem cutD_of {s : List UInt8} {j : Nat} (hj : j ≤ s.length) (hd : ∀ y ∈ s.drop j, isDg y = true) (h0 : j = 0 ∨ isDg (s.getD (j - 1) 0) = false) : cutD s = (s.take j, s.drop j) := by
  by_cases hz : j = 0
  · subst hz
    rw [List.drop_zero] at hd
    have h1 : s.reverse.takeWhile isDg = s.reverse := by
      have h2 := List.takeWhile_append_of_pos (p := isDg) (l₁ := s.reverse) (l₂ := []) (by intro y hy; exact hd y (by simpa using hy))
      simpa using h2
    have h2 : s.reverse.dropWhile isDg = [] := by
      have h3 := List.dropWhile_append_of_pos (p := isDg) (l₁ := s.reverse) (l₂ := []) (by intro y hy; exact hd y (by simpa using hy))
      simpa using h3
    unfold cutD
    rw [h1, h2]
    simp
  · have h1 : isDg (s.getD (j - 1) 0) = false := by
      rcases h0 with h | h
      · exact absurd h hz
      · exact h
    have e2 := take_one (s := s) (j := j) (by omega) hj
    have e : s = s.take (j - 1) ++ s.getD (j - 1) 0 :: s.drop j := by
      have h3 := List.take_append_drop j s
      rw [e2, List.append_assoc] at h3
      exact h3.symm
    rw [e2]
    have h4 := cutD_at (a := s.take (j - 1)) (d := s.drop j) (x := s.getD (j - 1) 0) h1 hd
    rw [← e] at h4
    exact h4
theorem rlT_yes {f d : Nat} {s : List UInt8} {j : Nat} (h0 : 0 < j) (hj : j < s.length) (hd : ∀ y ∈ s.drop j, isDg y = true) (h42 : s.getD (j - 1) 0 = 42) :
    rlT (f + 1) d s = match numS (s.drop j) with
      | none => none
      | some n => if n < 2 then none else rlB f d (n : Int) (s.take (j - 1)) := by
  have hc := cutD_of (by omega) hd (.inr (by rw [h42]; decide))
  have e2 := take_one (s := s) (j := j) h0 (by omega)
  rw [h42] at e2
  have hn : s.drop j ≠ [] := by
    intro e
    have := congrArg List.length e
    simp at this
    omega
  rw [rlT, hc, if_pos ⟨by rw [e2]; simp, hn, by rw [e2]; simp⟩]
  rw [show (s.take j, s.drop j).1.dropLast = s.take (j - 1) from by rw [e2]; simp]
  all_goals rfl
theorem rlT_no {f d : Nat} {s : List UInt8} {j : Nat} (hj : j ≤ s.length) (hd : ∀ y ∈ s.drop j, isDg y = true) (h0 : j = 0 ∨ isDg (s.getD (j - 1) 0) = false) (h : j = 0 ∨ j = s.length ∨ s.getD (j - 1) 0 ≠ 42) :
    rlT (f + 1) d s = rlB f d 1 s := by
  have hc := cutD_of hj hd h0
  rw [rlT, hc, if_neg]
  rintro ⟨k1, k2, k3⟩
  rcases h with rfl | rfl | h
  · exact k1 rfl
  · exact k2 (by simp)
  · by_cases hz : j = 0
    · subst hz
      exact k1 rfl
    · have e2 := take_one (s := s) (j := j) (by omega) hj
      simp only at k3
      rw [e2] at k3
      simp at k3
      exact h (by simpa using k3)
theorem inner_eq (S : List UInt8) : (S.drop 1).dropLast = (S.drop 1).take (S.length - 1 - 1) := by
  rw [List.dropLast_eq_take, List.length_drop]
theorem last_eq {S : List UInt8} (h : 1 < S.length) (x : UInt8) : S.getLast? = some x ↔ S.getD (S.length - 1) 0 = x := by
  rw [List.getLast?_eq_getElem?, List.getD_eq_getElem?_getD, List.getElem?_eq_getElem (by omega)]
  simp
/-- what list returns -/
def listP (f d : Nat) (s : List UInt8) : Option Tms := if s = [] then some .nil else rlL f d 0 s
theorem rlB_yes {f d : Nat} {n : Int} {S : List UInt8} (h1 : 1 < S.length) (h2 : S.getD 0 0 = 40) (h3 : S.getD (S.length - 1) 0 = 41) (hd : 0 < d) :
    rlB (f + 1) d n S = (listP f (d - 1) ((S.drop 1).take (S.length - 1 - 1))).bind fun g => if g.cnt = 0 then none else some (n, st0, g) := by
  rw [rlB, if_pos ⟨h1, h2, (last_eq h1 41).2 h3, hd⟩, inner_eq, listP]
  by_cases h0 : (S.drop 1).take (S.length - 1 - 1) = []
  · rw [if_pos h0, if_pos h0]
    rfl
  · rw [if_neg h0, if_neg h0]
    cases hq : rlL f (d - 1) 0 ((S.drop 1).take (S.length - 1 - 1)) with
    | none => rfl
    | some g =>
      have hp : 0 < g.cnt := by
        cases f with
        | zero => rw [rlL] at hq; cases hq
        | succ f =>
          rw [rlL] at hq
          split at hq
          · cases hq
          · split at hq
            · cases hq
            · split at hq
              · cases hq
                simp [Tms.cnt]
              · split at hq
                · obtain ⟨r, _, rfl⟩ := Option.map_eq_some_iff.1 hq
                  simp [Tms.cnt]
                · cases hq
      rw [Option.map_some, Option.bind_some, if_neg (by omega)]
theorem rlB_no {f d : Nat} {n : Int} {S : List UInt8} (h : ¬ (1 < S.length ∧ S.getD 0 0 = 40 ∧ S.getD (S.length - 1) 0 = 41 ∧ 0 < d)) :
    rlB (f + 1) d n S = match parseL S with
      | some [c] => some (n, c, .nil)
      | _ => none := by
  rw [rlB]
  refine (if_neg ?_).trans rfl
  rintro ⟨k1, k2, k3, k4⟩
  exact h ⟨k1, k2, (last_eq k1 41).1 k3, k4⟩
/-- what is still to be read -/
def contL (F d : Nat) (done : Tms) (s : List UInt8) : Option Tms := (rlL F d done.cnt s).map fun r => done.app r
theorem contL_none {F d : Nat} {done : Tms} {s : List UInt8} (h : rlT F d (endP 0 s).1 = none) : contL (F + 1) d done s = none := by
  rw [contL, rlL, h]
  rfl
theorem contL_many {F d : Nat} {done : Tms} {s : List UInt8} (h : 200 < done.cnt) : contL (F + 1) d done s = none := by
  rw [contL, rlL]
  split
  · rfl
  · rw [if_pos h]
    rfl
theorem contL_last {F d : Nat} {done : Tms} {s : List UInt8} {n : Int} {c : St} {g : Tms} (h : rlT F d (endP 0 s).1 = some (n, c, g)) (h2 : ¬ 200 < done.cnt) (h3 : (endP 0 s).2 = []) : contL (F + 1) d done s = some (done.app (.cons n c g .nil)) := by
  rw [contL, rlL, h]
  simp only
  rw [if_neg h2, h3]
  rfl
theorem contL_bad {F d : Nat} {done : Tms} {s : List UInt8} {x : UInt8} {s2 : List UInt8} (h3 : (endP 0 s).2 = x :: s2) (hx : x ≠ 32) : contL (F + 1) d done s = none := by
  rw [contL, rlL]
  split
  · rfl
  · split
    · rfl
    · rw [h3]
      simp only
      rw [if_neg hx]
      rfl
theorem contL_next {F d : Nat} {done : Tms} {s : List UInt8} {s2 : List UInt8} {n : Int} {c : St} {g : Tms} (h : rlT F d (endP 0 s).1 = some (n, c, g)) (h2 : ¬ 200 < done.cnt) (h3 : (endP 0 s).2 = 32 :: s2) : contL (F + 1) d done s = contL F d (done.app (.cons n c g .nil)) s2 := by
  have hc : (done.app (.cons n c g .nil)).cnt = done.cnt + 1 := by rw [app_cntR]; rfl
  rw [contL, contL, hc, rlL, h]
  simp only
  rw [if_neg h2, h3]
  simp only [if_true]
  rw [Option.map_map]
  congr 1
  funext r
  simp only [Function.comp]
  rw [app_assocR]
  rfl
theorem contL_start (F d : Nat) (s : List UInt8) : contL F d .nil s = rlL F d 0 s := by
  rw [contL, show Tms.nil.cnt = 0 from rfl]
  cases rlL F d 0 s <;> rfl
theorem rlL_cnt : ∀ (f d k : Nat) (s : List UInt8) (t : Tms), rlL f d k s = some t → t.cnt + k ≤ 202 := by
  intro f
  induction f with
  | zero => intro d k s t h; rw [rlL] at h; cases h
  | succ f ih =>
    intro d k s t h
    rw [rlL] at h
    split at h
    · cases h
    · split at h
      · cases h
      · split at h
        · cases h
          simp only [Tms.cnt]
          omega
        · split at h
          · obtain ⟨r, h9, rfl⟩ := Option.map_eq_some_iff.1 h
            have := ih _ _ _ _ h9
            simp only [Tms.cnt]
            omega
          · cases h
theorem listP_len {f d : Nat} {s : List UInt8} {t : Tms} (h : listP f d s = some t) : t.cnt ≤ 202 := by
  unfold listP at h
  split at h
  · cases h
    simp [Tms.cnt]
  · have := rlL_cnt _ _ _ _ _ h
    omega
end Go.Proofs.YtfbfkoeaihknoaaGreatDoor
/- Small facts on worlds that have only grown, for the walks of this claim. -/
namespace Go.Proofs.YtfbfkoeaihknoaaGreatDoor
set_option maxRecDepth 100000
open Go.RowKit

/-- the world has grown: what was there is as it was -/
def Ext (w w' : World) : Prop := Below w.heap.size w w'
theorem Ext.refl (w : World) : Ext w w := Below.refl _ _
theorem Ext.trans {a b c : World} (h : Ext a b) (k : Ext b c) : Ext a c := Below.trans h (Below.mono k (Below.size h))
theorem Ext.alloc {a b : World} (h : Ext a b) (o : Obj) : Ext a (b.alloc o) := Below.alloc h (Below.size h) o
theorem Ext.drew {a b : World} (h : Ext a b) : Ext a b.drew := Below.drew h
theorem Ext.drewN {a b : World} (h : Ext a b) (n : Nat) : Ext a (b.drewN n) := ⟨h.os, h.tape, h.output, h.size, h.block⟩
theorem Ext.via {a b b' c : World} (h : Ext a b) (k : Ext b' c) (hb : Ext b b') : Ext a c := (h.trans hb).trans k
theorem Ext.facts {W w1 : World} (hb : Ext W w1) : (∀ b o, b < W.heap.size → w1.cell? ⟨b, o, none⟩ = W.cell? ⟨b, o, none⟩) ∧ (∀ b o, b < W.heap.size → w1.frozen? ⟨b, o, none⟩ = W.frozen? ⟨b, o, none⟩) ∧ (∀ b, b < W.heap.size → b < w1.heap.size) :=
  ⟨fun b o h => Below.cell (p := ⟨b, o, none⟩) hb h, fun b o h => Below.frozen (p := ⟨b, o, none⟩) hb h, fun _ h => Nat.lt_of_lt_of_le h (Below.size hb)⟩


theorem prod_bd {a b A B : Int} (h0 : 0 ≤ a) (h1 : a ≤ A) (h2 : 0 ≤ b) (h3 : b ≤ B) : 0 ≤ a * b ∧ a * b ≤ A * B :=
  ⟨Int.mul_nonneg h0 h2, Int.mul_le_mul h1 h3 h2 (by omega)⟩
end Go.Proofs.YtfbfkoeaihknoaaGreatDoor
