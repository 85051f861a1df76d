/- Parse of Text is the list: the plain law of the texts of stitches. -/
import Derived.Test.YtfbfkoeaihknoaaGreatDoorG08
import Derived.Test.YtfbfkoeaihknoaaGreatDoorG02
import Derived.Test.YtfbfkoeaihknoaaGreatDoorProg
import Derived.Test.YtfbfkoeaihknoaaGreatDoorG00
import Derived.Shelf.Strings.BuilderK
namespace Go.Proofs.YtfbfkoeaihknoaaGreatDoor
set_option maxRecDepth 100000
/-- what is known of a word that is written -/
structure WordFine (x : St × Nat) : Prop where
  read : readW (wordG x) = (x.1, (x.2 : Int))
  blank : (32 : UInt8) ∉ wordG x
  line : (10 : UInt8) ∉ wordG x
  short : (wordG x).length ≤ 5
  long : 0 < (wordG x).length
theorem word_fine {s : St} {n : Nat} (h : okSt s = true) (h1 : 1 ≤ n) (h2 : n ≤ 200) (h3 : n = 1 ∨ s.k = 1) : WordFine (s, n) := by
  rcases Nat.lt_or_ge 1 n with hn | hn
  · have hk : s.k = 1 := by rcases h3 with h3 | h3; · omega
                            · exact h3
    obtain ⟨hk1, ha, hb, hp⟩ := ok_e h
    rw [hk] at ha hb
    have ha := inR_e ha
    have hb := inR_e hb
    simp [fa0, fa1, fb0, fb1] at ha hb
    obtain ⟨k, p, a, b⟩ := s
    simp only at hk ha hb
    subst hk
    obtain rfl : a = 0 := by omega
    obtain rfl : b = 0 := by omega
    obtain ⟨m, rfl⟩ : ∃ m, n = m + 2 := ⟨n - 2, by omega⟩
    have h5 := List.all_eq_true.1 runs_ok m (List.mem_range.2 (by omega))
    have h6 := List.all_eq_true.1 h5 p (by cases p <;> simp)
    simp only [Bool.and_eq_true, decide_eq_true_eq, Bool.not_eq_true'] at h6
    refine ⟨h6.1.1.1, fun h => ?_, fun h => ?_, h6.2, ?_⟩
    · have := List.contains_iff_mem.2 h; rw [h6.1.1.2] at this; cases this
    · have := List.contains_iff_mem.2 h; rw [h6.1.2] at this; cases this
    · have : 0 < (wordT ⟨1, p, 0, 0⟩).length := by cases p <;> decide
      simp only [wordG, List.length_append]; omega
  · obtain rfl : n = 1 := by omega
    have h5 := List.all_eq_true.1 words_ok s (mem_allSt h)
    simp only [wordOk, Bool.and_eq_true, decide_eq_true_eq, Bool.not_eq_true'] at h5
    have e : wordG (s, 1) = wordT s := by simp [wordG]
    refine ⟨by rw [e]; exact h5.1.1.1.1, fun h => ?_, fun h => ?_, by rw [e]; exact h5.1.2, by rw [e]; exact h5.2⟩
    · rw [e] at h; have := List.contains_iff_mem.2 h; rw [h5.1.1.1.2] at this; cases this
    · rw [e] at h; have := List.contains_iff_mem.2 h; rw [h5.1.1.2] at this; cases this
theorem grp_cons (s : St) (l : List St) : (∃ n g, grp l = (s, n) :: g ∧ s.k = 1 ∧ grp (s :: l) = (s, n + 1) :: g) ∨ (grp (s :: l) = (s, 1) :: grp l ∧ ∀ n g, grp l = (s, n) :: g → s.k ≠ 1) := by
  rcases h : grp l with _ | ⟨⟨t, n⟩, g⟩
  · exact .inr ⟨by simp [grp, h], fun n g e => by cases e⟩
  · by_cases hc : s.k = 1 ∧ s = t
    · obtain ⟨h1, rfl⟩ := hc
      exact .inl ⟨n, g, rfl, h1, by simp [grp, h, h1]⟩
    · refine .inr ⟨by simp only [grp, h]; rw [if_neg hc], fun n' g' e hk => hc ⟨hk, ?_⟩⟩
      injection e with e1 e2
      injection e1 with e1 e3
      exact e1.symm
theorem grp_expand (l : List St) : (grp l).flatMap (fun x => List.replicate x.2 x.1) = l := by
  induction l with
  | nil => rfl
  | cons s l ih =>
    rcases grp_cons s l with ⟨n, g, h1, _, h3⟩ | ⟨h1, _⟩
    · rw [h1] at ih
      rw [h3, List.flatMap_cons] 
      rw [List.flatMap_cons] at ih
      rw [List.replicate_succ, List.cons_append, ih]
    · rw [h1, List.flatMap_cons, ih]; rfl
theorem grp_sum (l : List St) : ((grp l).map (·.2)).sum = l.length := by
  induction l with
  | nil => rfl
  | cons s l ih =>
    rcases grp_cons s l with ⟨n, g, h1, _, h3⟩ | ⟨h1, _⟩
    · rw [h1] at ih
      rw [h3]
      simp at ih ⊢
      omega
    · rw [h1]; simp at ih ⊢; omega
theorem grp_mem {l : List St} : ∀ {x : St × Nat}, x ∈ grp l → x.1 ∈ l ∧ 1 ≤ x.2 ∧ (x.2 = 1 ∨ x.1.k = 1) := by
  induction l with
  | nil => intro x h; cases h
  | cons s l ih =>
    intro x h
    rcases grp_cons s l with ⟨n, g, h1, h2, h3⟩ | ⟨h1, _⟩
    · rw [h3] at h
      rcases List.mem_cons.1 h with rfl | h
      · exact ⟨by simp, by simp, .inr h2⟩
      · have := ih (x := x) (by rw [h1]; simp [h])
        exact ⟨by simp [this.1], this.2⟩
    · rw [h1] at h
      rcases List.mem_cons.1 h with rfl | h
      · exact ⟨by simp, by simp, .inl rfl⟩
      · have := ih h
        exact ⟨by simp [this.1], this.2⟩
theorem grp_ne {l : List St} (h : l ≠ []) : grp l ≠ [] := by
  cases l with
  | nil => exact absurd rfl h
  | cons s l =>
    rcases grp_cons s l with ⟨n, g, _, _, h3⟩ | ⟨h1, _⟩
    · rw [h3]; simp
    · rw [h1]; simp
theorem le_sum {l : List (St × Nat)} {x : St × Nat} (h : x ∈ l) : x.2 ≤ (l.map (·.2)).sum := by
  induction l with
  | nil => cases h
  | cons y l ih =>
    rcases List.mem_cons.1 h with rfl | h
    · simp
    · have := ih h; simp at this ⊢; omega
theorem grp_fine {l : List St} (h : allE l = 0) {x : St × Nat} (hx : x ∈ grp l) : WordFine x := by
  obtain ⟨h1, h2, _, _⟩ := allE_e h
  obtain ⟨m1, m2, m3⟩ := grp_mem hx
  have h4 := le_sum hx
  rw [grp_sum] at h4
  exact word_fine (List.all_eq_true.1 h2 _ m1) m2 (by omega) m3
/-- what Parse does with the words -/
def parseGo : List St → List (List UInt8) → Option (List St)
  | acc, [] => some acc
  | acc, w :: ws => if okSt (readW w).1 = true ∧ (acc.length : Int) + (readW w).2 ≤ 200 then parseGo (acc ++ List.replicate (readW w).2.toNat (readW w).1) ws else none
def parseW (s : List UInt8) : Option (List St) := if s = [] then some [] else parseGo [] (spl 32 s)
def parseL (s : List UInt8) : Option (List St) :=
  if 3000 < s.length then none else (parseW s).bind fun l => if allE l = 0 ∧ textL l = s then some l else none
theorem parseGo_words {gs : List (St × Nat)} : ∀ {acc : List St}, (∀ x ∈ gs, WordFine x ∧ okSt x.1 = true) → acc.length + (gs.map (·.2)).sum ≤ 200 →
    parseGo acc (gs.map wordG) = some (acc ++ gs.flatMap (fun x => List.replicate x.2 x.1)) := by
  induction gs with
  | nil => intro acc _ _; simp [parseGo]
  | cons x gs ih =>
    intro acc h hs
    obtain ⟨hf, hk⟩ := h x (by simp)
    simp only [List.map_cons, List.sum_cons] at hs
    rw [List.map_cons, parseGo, hf.read]
    rw [if_pos ⟨hk, by simp only; omega⟩]
    rw [ih (fun y hy => h y (by simp [hy])) (by simp; omega)]
    simp
theorem text_nil : textL [] = [] := rfl
theorem join_len_le {c : UInt8} {ws : List (List UInt8)} {m : Nat} (h : ∀ w ∈ ws, w.length ≤ m) : (joinB c ws).length ≤ (m + 1) * ws.length := by
  induction ws with
  | nil => simp [joinB]
  | cons x ws ih =>
    have hx := h x (by simp)
    cases ws with
    | nil => simp only [joinB, List.length_cons, List.length_nil]; omega
    | cons y ws =>
      have := ih (fun w hw => h w (by simp at hw ⊢; exact .inr hw))
      simp only [joinB, List.length_append, List.length_cons] at this ⊢
      rw [Nat.mul_add (m + 1) (ws.length + 1) 1, Nat.mul_one]
      omega
theorem grp_len (l : List St) : (grp l).length ≤ l.length := by
  induction l with
  | nil => simp [grp]
  | cons s l ih =>
    rcases grp_cons s l with ⟨n, g, h1, _, h3⟩ | ⟨h1, _⟩
    · rw [h1] at ih; rw [h3]; simp at ih ⊢; omega
    · rw [h1]; simp; omega
/-- a text is never too long -/
theorem text_len {l : List St} (h : allE l = 0) : (textL l).length ≤ 6 * l.length := by
  have h1 := join_len_le (c := 32) (ws := (grp l).map wordG) (m := 5) (fun w hw => by
    obtain ⟨x, hx, rfl⟩ := List.mem_map.1 hw
    exact (grp_fine h hx).short)
  have h2 := grp_len l
  rw [List.length_map] at h1
  unfold textL
  omega
theorem text_short {l : List St} (h : allE l = 0) : (textL l).length ≤ 1200 := by
  have h1 := text_len h
  have h2 := (allE_e h).1
  omega
theorem join_ne {c : UInt8} {ws : List (List UInt8)} (h : ws ≠ []) (hw : ∀ w ∈ ws, 0 < w.length) : joinB c ws ≠ [] := by
  cases ws with
  | nil => exact absurd rfl h
  | cons x ws =>
    have := hw x (by simp)
    cases ws with
    | nil => intro e; rw [joinB] at e; rw [e] at this; simp at this
    | cons y ws => intro e; rw [joinB] at e; simp at e
theorem text_spl {l : List St} (h : allE l = 0) (hl : l ≠ []) : spl 32 (textL l) = (grp l).map wordG :=
  spl_join (by simpa using grp_ne hl) (fun w hw => by
    obtain ⟨x, hx, rfl⟩ := List.mem_map.1 hw
    exact (grp_fine h hx).blank)
/-- Parse of Text is the list -/
theorem parse_text {l : List St} (h : allE l = 0) : parseL (textL l) = some l := by
  have hs := text_short h
  rw [parseL, if_neg (by omega)]
  have hw : parseW (textL l) = some l := by
    rcases List.eq_nil_or_concat l with rfl | ⟨l', x, e⟩
    · rfl
    · have hl : l ≠ [] := by rw [e]; simp
      have hne : textL l ≠ [] := join_ne (by simpa using grp_ne hl) (fun w hw => by
        obtain ⟨x, hx, rfl⟩ := List.mem_map.1 hw
        exact (grp_fine h hx).long)
      rw [parseW, if_neg hne, text_spl h hl, parseGo_words (fun y hy => ⟨grp_fine h hy, List.all_eq_true.1 (allE_e h).2.1 _ (grp_mem hy).1⟩) (by rw [grp_sum]; have := (allE_e h).1; simp; omega), grp_expand]
      simp
  rw [hw, Option.bind_some, if_pos ⟨h, rfl⟩]
theorem parse_iff {s : List UInt8} {l : List St} : parseL s = some l ↔ s.length ≤ 3000 ∧ allE l = 0 ∧ textL l = s := by
  constructor
  · intro h
    unfold parseL at h
    split at h
    · cases h
    · obtain ⟨l', h1, h2⟩ := Option.bind_eq_some_iff.1 h
      split at h2
      · rename_i h3
        cases h2
        exact ⟨by omega, h3⟩
      · cases h2
  · rintro ⟨h1, h2, rfl⟩
    exact parse_text h2
end Go.Proofs.YtfbfkoeaihknoaaGreatDoor
/- The texts of terms in plain Lean: what is written, and what the program's reader reads. -/
namespace Go.Proofs.YtfbfkoeaihknoaaGreatDoor
set_option maxRecDepth 100000
/-- the bytes at which a word ends -/
def isStop (c : UInt8) : Bool := c == 32 || c == 40 || c == 41 || c == 42
/-- what stands ahead of the first of them, and what is behind -/
def untilS : List UInt8 → List UInt8 × List UInt8
  | [] => ([], [])
  | x :: l => if isStop x then ([], x :: l) else (x :: (untilS l).1, (untilS l).2)
theorem until_word {w r : List UInt8} (h : ∀ x ∈ w, isStop x = false) (hr : r = [] ∨ ∃ c s, r = c :: s ∧ isStop c = true) : untilS (w ++ r) = (w, r) := by
  induction w with
  | nil =>
    rcases hr with rfl | ⟨c, s, rfl, hc⟩
    · rfl
    · simp [untilS, hc]
  | cons x w ih =>
    rw [List.cons_append, untilS, if_neg (by rw [h x (by simp)]; simp), ih (fun y hy => h y (by simp [hy]))]
/-- how often a term stands -/
def timesW (n : Int) : List UInt8 := if 1 < n then 42 :: decD n.toNat else []
/-- the text of terms -/
def wT : Tms → List UInt8
  | .nil => []
  | .cons n c .nil .nil => textL [c] ++ timesW n
  | .cons n c .nil r => textL [c] ++ timesW n ++ 32 :: wT r
  | .cons n _ g .nil => (40 :: (wT g ++ [41])) ++ timesW n
  | .cons n _ g r => (40 :: (wT g ++ [41])) ++ timesW n ++ 32 :: wT r
/-- the text of what is repeated -/
def headW (c : St) (g : Tms) : List UInt8 := match g with
  | .nil => textL [c]
  | g => 40 :: (wT g ++ [41])
theorem head_grp {c : St} {g : Tms} (h : g ≠ .nil) : headW c g = 40 :: (wT g ++ [41]) := by
  cases g with
  | nil => exact absurd rfl h
  | cons => rfl
theorem wT_one (n : Int) (c : St) (g : Tms) : wT (.cons n c g .nil) = headW c g ++ timesW n := by
  cases g <;> simp [wT, headW]
theorem wT_cons (n : Int) (c : St) (g r : Tms) (h : r ≠ .nil) : wT (.cons n c g r) = headW c g ++ timesW n ++ 32 :: wT r := by
  cases g <;> cases r <;> first | exact absurd rfl h | simp [wT, headW]
/-- how often: what is behind a term -/
def rdN (at_ : List UInt8 → Option Int) (c : St) (g : Tms) : List UInt8 → Option ((Int × St × Tms) × List UInt8)
  | 42 :: s => match at_ (untilS s).1 with
    | none => none
    | some n => some ((n, c, g), (untilS s).2)
  | s => some ((1, c, g), s)
mutual
/-- what is read of terms: the first number ends the way down, the second is the depth -/
def rdL (at_ : List UInt8 → Option Int) : Nat → Nat → List UInt8 → Option (Tms × List UInt8)
  | 0, _, _ => none
  | f + 1, d, s => match rdT at_ f d s with
    | none => none
    | some ((n, c, g), 32 :: s2) => (rdL at_ f d s2).map fun x => (.cons n c g x.1, x.2)
    | some ((n, c, g), s1) => some (.cons n c g .nil, s1)
/-- what is read of a term -/
def rdT (at_ : List UInt8 → Option Int) : Nat → Nat → List UInt8 → Option ((Int × St × Tms) × List UInt8)
  | 0, _, _ => none
  | f + 1, d, s => match s with
    | 40 :: s1 => if 8 < d + 1 then none else match rdL at_ f (d + 1) s1 with
      | some (g, 41 :: s2) => rdN at_ st0 g s2
      | _ => none
    | s => match parseL (untilS s).1 with
      | some [c] => rdN at_ c .nil (untilS s).2
      | _ => none
end
def cellOk (s : St) : Bool := decide (allE [s] = 0) && (wordT s).all (fun x => !isStop x) && !(wordT s).isEmpty
theorem cells_ok : allSt.all cellOk = true := by decide +kernel
theorem text_cell (c : St) : textL [c] = wordT c := by simp [textL, grp, joinB, wordG]
theorem cell_ok {c : St} (h : okSt c = true) : allE [c] = 0 ∧ (∀ x ∈ textL [c], isStop x = false) ∧ textL [c] ≠ [] := by
  have h1 := List.all_eq_true.1 cells_ok c (mem_allSt h)
  simp only [cellOk, Bool.and_eq_true, decide_eq_true_eq, List.all_eq_true, Bool.not_eq_true', List.isEmpty_eq_false_iff] at h1
  rw [text_cell]
  exact ⟨h1.1.1, h1.1.2, h1.2⟩
def digOk (n : Nat) : Bool := (decD n).all (fun x => !isStop x)
theorem digs_ok : (List.range 201).all digOk = true := by decide +kernel
theorem dig_ok {n : Nat} (h : n ≤ 200) : ∀ x ∈ decD n, isStop x = false := by
  have h1 := List.all_eq_true.1 digs_ok n (List.mem_range.2 (by omega))
  simpa [digOk] using h1
/-- what may stand behind a term -/
def Behind (s : List UInt8) : Prop := s = [] ∨ ∃ r, s = 32 :: r ∨ s = 41 :: r
theorem Behind.stop {s : List UInt8} (h : Behind s) : s = [] ∨ ∃ c r, s = c :: r ∧ isStop c = true := by
  rcases h with rfl | ⟨r, rfl | rfl⟩
  · exact .inl rfl
  · exact .inr ⟨32, r, rfl, rfl⟩
  · exact .inr ⟨41, r, rfl, rfl⟩
theorem rdN_one {at_ : List UInt8 → Option Int} {c : St} {g : Tms} {s : List UInt8} (h : Behind s) : rdN at_ c g s = some ((1, c, g), s) := by
  rcases h with rfl | ⟨r, rfl | rfl⟩ <;> rfl
theorem rdN_text {at_ : List UInt8 → Option Int} (hat : ∀ k : Nat, 2 ≤ k → k ≤ 200 → at_ (decD k) = some (k : Int)) {c : St} {g : Tms} {n : Int} (h1 : 1 ≤ n) (h2 : n ≤ 200) {s : List UInt8} (h : Behind s) : rdN at_ c g (timesW n ++ s) = some ((n, c, g), s) := by
  unfold timesW
  by_cases hn : 1 < n
  · rw [if_pos hn, List.cons_append, rdN, until_word (dig_ok (by omega)) h.stop]
    simp only
    rw [hat n.toNat (by omega) (by omega)]
    have e : ((n.toNat : Nat) : Int) = n := by omega
    rw [e]
  · rw [if_neg hn, List.nil_append, rdN_one h]
    have e : n = 1 := by omega
    rw [e]
theorem times_stop {n : Int} {s : List UInt8} (h : Behind s) : timesW n ++ s = [] ∨ ∃ c r, timesW n ++ s = c :: r ∧ isStop c = true := by
  unfold timesW
  split
  · exact .inr ⟨42, _, rfl, rfl⟩
  · exact h.stop
theorem text_no40 {c : St} (h : okSt c = true) (s : List UInt8) : ∃ x r, textL [c] ++ s = x :: r ∧ isStop x = false := by
  obtain ⟨_, h2, h3⟩ := cell_ok h
  cases e : textL [c] with
  | nil => exact absurd e h3
  | cons x r => exact ⟨x, r ++ s, rfl, h2 x (by rw [e]; simp)⟩
theorem rdT_cell (at_ : List UInt8 → Option Int) (f d : Nat) {x : UInt8} {r : List UInt8} (hx : isStop x = false) : rdT at_ (f + 1) d (x :: r) = match parseL (untilS (x :: r)).1 with
    | some [c] => rdN at_ c .nil (untilS (x :: r)).2
    | _ => none := by
  have hx2 : x ≠ 40 := by rintro rfl; simp [isStop] at hx
  rw [rdT]
  intro s1 e
  cases e
  exact hx2 rfl
/-- what is written is read -/
theorem rd_text {at_ : List UInt8 → Option Int} (hat : ∀ k : Nat, 2 ≤ k → k ≤ 200 → at_ (decD k) = some (k : Int)) : ∀ (M : Nat) (t : Tms), t.size ≤ M → t ≠ .nil → fineT t = true → ∀ (d f : Nat), t.depth + d ≤ 8 → 2 * t.size ≤ f → ∀ s : List UInt8, (s = [] ∨ ∃ r, s = 41 :: r) → rdL at_ f d (wT t ++ s) = some (t, s) := by
  intro M
  induction M with
  | zero =>
    intro t h h0
    have := size_pos h0
    omega
  | succ M ih =>
    intro t hs h0 hf d f hd hfl s hb
    cases t with
    | nil => exact absurd rfl h0
    | cons n c g r =>
      simp only [Tms.size] at hs hfl
      simp only [Tms.depth] at hd
      obtain ⟨f, rfl⟩ : ∃ k, f = k + 2 := ⟨f - 2, by omega⟩
      have hn : 1 ≤ n ∧ n ≤ 200 := by
        by_cases hg : g = .nil
        · subst hg
          rw [fine_one] at hf
          simp only [Bool.and_eq_true] at hf
          exact inR_e hf.1.1
        · rw [fine_grp _ _ _ _ hg] at hf
          simp only [Bool.and_eq_true] at hf
          exact inR_e hf.1.1.1
      have hfr : fineT r = true := by
        by_cases hg : g = .nil
        · subst hg
          rw [fine_one] at hf
          simp only [Bool.and_eq_true] at hf
          exact hf.2
        · rw [fine_grp _ _ _ _ hg] at hf
          simp only [Bool.and_eq_true] at hf
          exact hf.2
      have hterm : ∀ q : List UInt8, Behind q → rdT at_ (f + 1) d (headW c g ++ timesW n ++ q) = some ((n, c, g), q) := by
        intro q hq
        by_cases hg : g = .nil
        · subst hg
          rw [fine_one] at hf
          simp only [Bool.and_eq_true] at hf
          obtain ⟨k1, k2, k3⟩ := cell_ok hf.1.2
          obtain ⟨x, w, e, hx⟩ := text_no40 hf.1.2 (timesW n ++ q)
          show rdT at_ (f + 1) d (textL [c] ++ timesW n ++ q) = _
          rw [List.append_assoc, e, rdT_cell _ _ _ hx, ← e, until_word k2 (times_stop hq)]
          simp only
          rw [parse_text k1]
          exact rdN_text hat hn.1 hn.2 hq
        · rw [head_grp hg]
          rw [fine_grp _ _ _ _ hg] at hf
          simp only [Bool.and_eq_true, decide_eq_true_eq] at hf
          obtain ⟨⟨⟨_, hc⟩, hfg⟩, _⟩ := hf
          have e : 40 :: (wT g ++ [41]) ++ timesW n ++ q = 40 :: (wT g ++ (41 :: (timesW n ++ q))) := by simp
          rw [e, rdT, if_neg (by omega)]
          rw [ih g (by omega) hg hfg (d + 1) f (by omega) (by omega) (41 :: (timesW n ++ q)) (.inr ⟨_, rfl⟩)]
          simp only
          rw [hc]
          exact rdN_text hat hn.1 hn.2 hq
      by_cases hr : r = .nil
      · subst hr
        rw [wT_one, rdL, hterm s (by rcases hb with rfl | ⟨x, rfl⟩; exact .inl rfl; exact .inr ⟨x, .inr rfl⟩)]
        rcases hb with rfl | ⟨x, rfl⟩ <;> rfl
      · rw [wT_cons _ _ _ _ hr]
        have e : headW c g ++ timesW n ++ 32 :: wT r ++ s = headW c g ++ timesW n ++ (32 :: (wT r ++ s)) := by simp
        rw [e, rdL, hterm _ (.inr ⟨_, .inl rfl⟩)]
        simp only
        rw [ih r (by omega) hr hfr d (f + 1) (by omega) (by omega) s hb]
        rfl
end Go.Proofs.YtfbfkoeaihknoaaGreatDoor
/- Parse of terms in plain Lean: it accepts just the texts of valid lists. -/
namespace Go.Proofs.YtfbfkoeaihknoaaGreatDoor
set_option maxRecDepth 100000
theorem wT_len : ∀ {t : Tms}, fineT t = true → t.size ≤ (wT t).length := by
  intro t
  induction t with
  | nil => intro _; simp [Tms.size]
  | cons n c g r ih1 ih2 =>
    intro h
    have hh : g.size + 1 ≤ (headW c g).length ∧ fineT r = true := by
      by_cases hg : g = .nil
      · subst hg
        rw [fine_one] at h
        simp only [Bool.and_eq_true] at h
        have h3 := (cell_ok h.1.2).2.2
        refine ⟨?_, h.2⟩
        show 0 + 1 ≤ (textL [c]).length
        have := List.length_pos_iff.2 h3
        omega
      · rw [fine_grp _ _ _ _ hg] at h
        simp only [Bool.and_eq_true] at h
        refine ⟨?_, h.2⟩
        rw [head_grp hg]
        have := ih1 h.1.2
        simp only [List.length_cons, List.length_append, List.length_nil]
        omega
    rw [Tms.size]
    by_cases hr : r = .nil
    · subst hr
      rw [wT_one, List.length_append]
      simp only [Tms.size]
      omega
    · rw [wT_cons _ _ _ _ hr, List.length_append, List.length_append, List.length_cons]
      have := ih2 hh.2
      omega
theorem wT_ne {t : Tms} (h : fineT t = true) (h0 : t ≠ .nil) : wT t ≠ [] := by
  intro e
  have h1 := wT_len h
  have h2 := size_pos h0
  rw [e] at h1
  simp at h1
  omega
/-- what the reader returns -/
def readT (at_ : List UInt8 → Option Int) (s : List UInt8) : Option Tms := if s = [] then some .nil else match rdL at_ (2 * s.length + 2) 0 s with
  | some (t, []) => some t
  | _ => none
/-- what Text of terms returns -/
def ttextE (t : Tms) : Int := if tchkE t ≠ 0 then tchkE t else if 3000 < (wT t).length then 4 else 0
def ttextV (t : Tms) : List UInt8 := if ttextE t = 0 then wT t else []
def parseT (at_ : List UInt8 → Option Int) (s : List UInt8) : Option Tms := if 3000 < s.length then none else (readT at_ s).bind fun t => if ttextE t = 0 ∧ ttextV t = s then some t else none
theorem tchk_parts {t : Tms} (h : tchkE t = 0) : t.size ≤ 200 ∧ t.depth ≤ 8 ∧ fineT t = true := by
  unfold tchkE at h
  split at h
  · cases h
  · split at h
    · rename_i h1 h2
      exact ⟨by omega, by omega, h2⟩
    · cases h
theorem read_text {at_ : List UInt8 → Option Int} (hat : ∀ k : Nat, 2 ≤ k → k ≤ 200 → at_ (decD k) = some (k : Int)) {t : Tms} (h : tchkE t = 0) : readT at_ (wT t) = some t := by
  obtain ⟨h1, h2, h3⟩ := tchk_parts h
  by_cases h0 : t = .nil
  · subst h0
    rfl
  · rw [readT, if_neg (wT_ne h3 h0)]
    have h4 := wT_len h3
    have h5 := rd_text hat t.size t (Nat.le_refl _) h0 h3 0 (2 * (wT t).length + 2) (by omega) (by omega) [] (.inl rfl)
    rw [List.append_nil] at h5
    rw [h5]
theorem ttext_ok {t : Tms} {s : List UInt8} (hs : s.length ≤ 3000) : (ttextE t = 0 ∧ ttextV t = s) ↔ (tchkE t = 0 ∧ wT t = s) := by
  constructor
  · rintro ⟨h1, h2⟩
    rw [ttextV, if_pos h1] at h2
    refine ⟨?_, h2⟩
    unfold ttextE at h1
    split at h1
    · exact h1
    · rename_i h3
      simpa using h3
  · rintro ⟨h1, rfl⟩
    have h3 : ttextE t = 0 := by rw [ttextE, if_neg (by simpa using h1), if_neg (by omega)]
    exact ⟨h3, by rw [ttextV, if_pos h3]⟩
theorem parseT_iff {at_ : List UInt8 → Option Int} (hat : ∀ k : Nat, 2 ≤ k → k ≤ 200 → at_ (decD k) = some (k : Int)) {s : List UInt8} {t : Tms} : parseT at_ s = some t ↔ s.length ≤ 3000 ∧ tchkE t = 0 ∧ wT t = s := by
  constructor
  · intro h
    unfold parseT at h
    split at h
    · cases h
    · rename_i hs
      obtain ⟨t', _, h3⟩ := Option.bind_eq_some_iff.1 h
      split at h3
      · rename_i h4
        cases h3
        exact ⟨by omega, (ttext_ok (by omega)).1 h4⟩
      · cases h3
  · rintro ⟨h1, h2, rfl⟩
    rw [parseT, if_neg (by omega), read_text hat h2, Option.bind_some, if_pos ((ttext_ok h1).2 ⟨h2, rfl⟩)]
end Go.Proofs.YtfbfkoeaihknoaaGreatDoor
/- The reader of terms in plain Lean: what is left is the end of what was there. -/
namespace Go.Proofs.YtfbfkoeaihknoaaGreatDoor
set_option maxRecDepth 100000
theorem untilS_suf : ∀ s : List UInt8, (untilS s).2 <:+ s := by
  intro s
  induction s with
  | nil => exact List.suffix_refl _
  | cons x l ih =>
    rw [untilS]
    split
    · exact List.suffix_refl _
    · exact ih.trans (List.suffix_cons x l)
theorem rdN_suf {at_ : List UInt8 → Option Int} {c : St} {g : Tms} {s : List UInt8} {x : (Int × St × Tms) × List UInt8} (h : rdN at_ c g s = some x) : x.2 <:+ s := by
  unfold rdN at h
  split at h
  · rename_i s'
    split at h
    · cases h
    · cases h
      exact (untilS_suf s').trans (List.suffix_cons _ _)
  · cases h
    exact List.suffix_refl _
theorem rd_suf (at_ : List UInt8 → Option Int) : ∀ f, (∀ d s x, rdT at_ f d s = some x → x.2 <:+ s) ∧ (∀ d s x, rdL at_ f d s = some x → x.2 <:+ s ∧ x.1.cnt + x.2.length ≤ s.length + 1) := by
  intro f
  induction f with
  | zero => exact ⟨fun d s x h => (by rw [rdT] at h; cases h), fun d s x h => (by rw [rdL] at h; cases h)⟩
  | succ f ih =>
    refine ⟨fun d s x h => ?_, fun d s x h => ?_⟩
    · unfold rdT at h
      split at h
      · rename_i s1
        split at h
        · cases h
        · split at h
          · rename_i g s2 h2
            have h3 := (ih.2 _ _ _ h2).1
            have h4 := rdN_suf h
            exact ((h4.trans (List.suffix_cons _ _)).trans h3).trans (List.suffix_cons _ _)
          · cases h
      · split at h
        · exact (rdN_suf h).trans (untilS_suf _)
        · cases h
    · rw [rdL] at h
      split at h
      · cases h
      · rename_i n c g s2 h2
        have h3 := ih.1 _ _ _ h2
        obtain ⟨y, hy, e⟩ := Option.map_eq_some_iff.1 h
        subst e
        obtain ⟨h4, h5⟩ := ih.2 _ _ _ hy
        have h6 := h3.length_le
        simp only [List.length_cons] at h6
        refine ⟨(h4.trans (List.suffix_cons _ _)).trans h3, ?_⟩
        simp only [Tms.cnt]
        omega
      · rename_i n c g s1 hne h2
        cases h
        have h3 := ih.1 _ _ _ h2
        have h6 := h3.length_le
        refine ⟨h3, ?_⟩
        simp only [Tms.cnt]
        simp only at h6
        omega
end Go.Proofs.YtfbfkoeaihknoaaGreatDoor
/- strings.Builder: WriteString, laid by hand (the kit's tool passes over it: no body of the closure names the types string and interface). -/
namespace Go.Proofs.YtfbfkoeaihknoaaGreatDoor
set_option maxRecDepth 100000
set_option maxRecDepth 100000
open Go.RowKit Go.Shelf
def bldRen : Go.Shelf.Ren := ⟨fun | 166 => 45 | 240 => 61 | 276 => 73 | n => n, fun | 0 => 0 | 3 => 3 | 4 => 4 | 5 => 5 | 9 => 9 | 20 => 20 | 37 => 58 | 70 => 57 | 72 => 60 | 75 => 83 | 80 => 63 | 164 => 120 | n => n, fun | n => n⟩
theorem bldLays : Lays.n166 Tryz.prog bldRen where
  mixed := by kernel_rfl
  f166 := Tryz.func45.trans (congrArg some (by kernel_rfl))
  f240 := Tryz.func61.trans (congrArg some (by kernel_rfl))
  f276 := Tryz.func73.trans (congrArg some (by kernel_rfl))
  t0 := Tryz.underlying0
  a0 := Tryz.isAgg0
  z0 := Tryz.sizeOf0
  v0 := Tryz.zeroValue0
  t3 := Tryz.underlying3
  a3 := Tryz.isAgg3
  z3 := Tryz.sizeOf3
  v3 := Tryz.zeroValue3
  t4 := Tryz.underlying4
  a4 := Tryz.isAgg4
  z4 := Tryz.sizeOf4
  v4 := Tryz.zeroValue4
  t9 := Tryz.underlying9
  a9 := Tryz.isAgg9
  z9 := Tryz.sizeOf9
  v9 := Tryz.zeroValue9
  t20 := Tryz.underlying20
  a20 := Tryz.isAgg20
  z20 := Tryz.sizeOf20
  v20 := Tryz.zeroValue20
  t37 := Tryz.underlying58
  a37 := Tryz.isAgg58
  z37 := Tryz.sizeOf58
  v37 := Tryz.zeroValue58
  t70 := Tryz.underlying57
  a70 := Tryz.isAgg57
  z70 := Tryz.sizeOf57
  v70 := Tryz.zeroValue57
  t72 := Tryz.underlying60
  a72 := Tryz.isAgg60
  z72 := Tryz.sizeOf60
  v72 := Tryz.zeroValue60
  t75 := Tryz.underlying83
  a75 := Tryz.isAgg83
  z75 := Tryz.sizeOf83
  v75 := Tryz.zeroValue83
  t164 := Tryz.underlying120
  a164 := Tryz.isAgg120
  z164 := Tryz.sizeOf120
  v164 := Tryz.zeroValue120
theorem bldX : Builder.Extra Tryz.prog bldRen where
  sizeBuilder := by kernel_rfl
  liesBuilder := by kernel_rfl
  t5 := Tryz.underlying5
  a5 := Tryz.isAgg5
  z5 := Tryz.sizeOf5
  v5 := Tryz.zeroValue5
  infoByte := by kernel_rfl
  cellsByte := by kernel_rfl
  sizeByte := by kernel_rfl
  neB5 := by decide
theorem bld_write (B b : Nat) (l x : List UInt8) (w : World) (h : Lib.IsBuilderF 60 5 B b (Lib.byteCells l) w) (hlen : l.length + x.length ≤ 1000000000) (hBw : B ≤ w.heap.size) :
    Calls Tryz.prog 45 #[.pointer (some ⟨b, 0, none⟩), .string ⟨x.toArray⟩] w fun e w' => e = .returned (.tuple #[.int .i64 x.length, .nilIface]) ∧ Lib.IsBuilderF 60 5 B b (Lib.byteCells (l ++ x)) w' ∧ Below B w w' := by
  have h1 := Any.Builder_WriteString_k bldLays bldX B b (Lib.byteCells l) ⟨x.toArray⟩ w h (by have e1 : (Lib.byteCells l).length = l.length := by simp [Lib.byteCells]
                                                                                              have e2 : (⟨x.toArray⟩ : ByteArray).size = x.length := by simp [ByteArray.size]
                                                                                              omega) hBw
  refine h1.mono ?_
  rintro e w' ⟨rfl, h2, h3, -⟩
  refine ⟨by simp [ByteArray.size], .inr ?_, h3⟩
  have e : Lib.byteCells (l ++ x) = Lib.byteCells l ++ Lib.strCells ⟨x.toArray⟩ := by simp [Lib.byteCells, Lib.strCells]
  rw [e]
  exact h2
/-- a builder lies as it lay where the world has only grown -/
theorem bld_ext {T e : TypeId} {B b : Nat} {bs : List Value} {w w' : World} (h : Lib.IsBuilderF T e B b bs w) (hb : Ext w w') : Lib.IsBuilderF T e B b bs w' := by
  have key : ∀ (k : Nat) (o : Obj), w.heap[k]? = some o → w'.heap[k]? = some o := fun k o hk => by
    rw [hb.block k (Array.getElem?_eq_some_iff.1 hk).1]
    exact hk
  have at_ : ∀ p, Lib.BuilderAtF T e B b p bs w → Lib.BuilderAtF T e B b p bs w' := fun p ⟨hB, v, hbk, hown, hne⟩ =>
    ⟨hB, v, key _ _ hbk, ⟨hown.1, hown.2.imp id fun ⟨g, cap, cur, fz, a, c, d, r⟩ => ⟨g, cap, cur, fz, a, c, key _ _ d, r⟩⟩, hne⟩
  exact h.elim (fun x => .inl (at_ _ x)) (fun x => .inr (at_ _ x))
/-- a builder just declared holds nothing -/
theorem bld_new (w : World) (T e : TypeId) (B : Nat) (hB : B ≤ w.heap.size) : Lib.IsBuilderF T e B w.heap.size (Lib.byteCells []) (w.alloc (.cells #[.pointer none, .slice none 0 0] T)) :=
  .inl ⟨hB, .slice none 0 0, heap_alloc_new w _, ⟨by simp [Lib.byteCells], .inl ⟨rfl, rfl⟩⟩, by simp [Value.ownBlock]⟩
end Go.Proofs.YtfbfkoeaihknoaaGreatDoor
/- strings.Builder: WriteByte, laid by hand as WriteString is; what both leave as it was; a builder that a call writes to. -/
namespace Go.Proofs.YtfbfkoeaihknoaaGreatDoor
set_option maxRecDepth 100000
set_option maxRecDepth 100000
open Go.RowKit Go.Shelf
def bytRen : Go.Shelf.Ren := ⟨fun | 167 => 43 | 240 => 61 | 276 => 73 | n => n, fun | 0 => 0 | 3 => 3 | 4 => 4 | 5 => 5 | 9 => 9 | 20 => 20 | 37 => 58 | 70 => 57 | 72 => 60 | 75 => 83 | 80 => 63 | 164 => 120 | n => n, fun | n => n⟩
theorem bytLays : Lays.n167 Tryz.prog bytRen where
  mixed := by kernel_rfl
  f167 := Tryz.func43.trans (congrArg some (by kernel_rfl))
  f240 := Tryz.func61.trans (congrArg some (by kernel_rfl))
  f276 := Tryz.func73.trans (congrArg some (by kernel_rfl))
  t0 := Tryz.underlying0
  a0 := Tryz.isAgg0
  z0 := Tryz.sizeOf0
  v0 := Tryz.zeroValue0
  t4 := Tryz.underlying4
  a4 := Tryz.isAgg4
  z4 := Tryz.sizeOf4
  v4 := Tryz.zeroValue4
  t5 := Tryz.underlying5
  a5 := Tryz.isAgg5
  z5 := Tryz.sizeOf5
  v5 := Tryz.zeroValue5
  t9 := Tryz.underlying9
  a9 := Tryz.isAgg9
  z9 := Tryz.sizeOf9
  v9 := Tryz.zeroValue9
  t20 := Tryz.underlying20
  a20 := Tryz.isAgg20
  z20 := Tryz.sizeOf20
  v20 := Tryz.zeroValue20
  t37 := Tryz.underlying58
  a37 := Tryz.isAgg58
  z37 := Tryz.sizeOf58
  v37 := Tryz.zeroValue58
  t70 := Tryz.underlying57
  a70 := Tryz.isAgg57
  z70 := Tryz.sizeOf57
  v70 := Tryz.zeroValue57
  t72 := Tryz.underlying60
  a72 := Tryz.isAgg60
  z72 := Tryz.sizeOf60
  v72 := Tryz.zeroValue60
  t75 := Tryz.underlying83
  a75 := Tryz.isAgg83
  z75 := Tryz.sizeOf83
  v75 := Tryz.zeroValue83
  t164 := Tryz.underlying120
  a164 := Tryz.isAgg120
  z164 := Tryz.sizeOf120
  v164 := Tryz.zeroValue120
theorem bytX : Builder.Extra Tryz.prog bytRen where
  sizeBuilder := by kernel_rfl
  liesBuilder := by kernel_rfl
  t5 := Tryz.underlying5
  a5 := Tryz.isAgg5
  z5 := Tryz.sizeOf5
  v5 := Tryz.zeroValue5
  infoByte := by kernel_rfl
  cellsByte := by kernel_rfl
  sizeByte := by kernel_rfl
  neB5 := by decide
/-- a builder that a call writes to: what it holds, and what stays as it was -/
structure WSt (W0 w0 : World) (b : Nat) (l : List UInt8) (w : World) : Prop where
  bl : Lib.IsBuilderF 60 5 W0.heap.size b (Lib.byteCells l) w
  ex : Ext W0 w
  kp : Lib.OthersKept 5 (some b) w0 w
theorem kept_ext {e : TypeId} {b : Option Nat} {w w' : World} (h : Ext w w') : Lib.OthersKept e b w w' := fun k o hk _ _ => by
  rw [h.block k (Array.getElem?_eq_some_iff.1 hk).1]
  exact hk
theorem WSt.ext {W0 w0 w w' : World} {b : Nat} {l : List UInt8} (h : WSt W0 w0 b l w) (hb : Ext w w') : WSt W0 w0 b l w' := ⟨bld_ext h.bl hb, h.ex.trans hb, h.kp.trans (kept_ext hb)⟩
theorem WSt.base {W0 w0 w1 w : World} {b : Nat} {l : List UInt8} (h : WSt W0 w1 b l w) (k : Lib.OthersKept 5 (some b) w0 w1) : WSt W0 w0 b l w := ⟨h.bl, h.ex, k.trans h.kp⟩
theorem WSt.here {W0 w0 w : World} {b : Nat} {l : List UInt8} (h : WSt W0 w0 b l w) : WSt W0 w b l w := ⟨h.bl, h.ex, Lib.OthersKept.refl _ _ _⟩
theorem bytes_len (l : List UInt8) : (Lib.byteCells l).length = l.length := by simp [Lib.byteCells]
theorem wbyte_c {W0 w0 w : World} {b : Nat} {l : List UInt8} (x : UInt8) (c : Int) (hc : (x.toNat : Int) = c) (h : WSt W0 w0 b l w) (hl : l.length ≤ 1000000000) :
    Calls Tryz.prog 43 #[.pointer (some ⟨b, 0, none⟩), .int .u8 c] w fun e w' => e = .returned .nilIface ∧ WSt W0 w0 b (l ++ [x]) w' := by
  subst hc
  refine (Any.Builder_WriteByte_k bytLays bytX W0.heap.size b (Lib.byteCells l) (x.toNat : Int) w h.bl (by rw [bytes_len]; omega) (Below.size h.ex)).mono ?_
  rintro e w' ⟨rfl, h2, h3, h4⟩
  refine ⟨rfl, .inr ?_, Below.trans h.ex h3, h.kp.trans h4⟩
  have e : Lib.byteCells (l ++ [x]) = Lib.byteCells l ++ [.int .u8 (x.toNat : Int)] := by simp [Lib.byteCells]
  rw [e]
  exact h2
theorem wstr_c {W0 w0 w : World} {b : Nat} {l : List UInt8} (x : List UInt8) (h : WSt W0 w0 b l w) (hl : l.length + x.length ≤ 1000000000) :
    Calls Tryz.prog 45 #[.pointer (some ⟨b, 0, none⟩), .string ⟨x.toArray⟩] w fun e w' => e = .returned (.tuple #[.int .i64 x.length, .nilIface]) ∧ WSt W0 w0 b (l ++ x) w' := by
  have h1 := Any.Builder_WriteString_k bldLays bldX W0.heap.size b (Lib.byteCells l) ⟨x.toArray⟩ w h.bl (by have e2 : (⟨x.toArray⟩ : ByteArray).size = x.length := by simp [ByteArray.size]
                                                                                                            rw [bytes_len]
                                                                                                            omega) (Below.size h.ex)
  refine h1.mono ?_
  rintro e w' ⟨rfl, h2, h3, h4⟩
  refine ⟨by simp [ByteArray.size], .inr ?_, Below.trans h.ex h3, h.kp.trans h4⟩
  have e : Lib.byteCells (l ++ x) = Lib.byteCells l ++ Lib.strCells ⟨x.toArray⟩ := by simp [Lib.byteCells, Lib.strCells]
  rw [e]
  exact h2
end Go.Proofs.YtfbfkoeaihknoaaGreatDoor
/- The walks of expand and Cells of terms. -/
namespace Go.Proofs.YtfbfkoeaihknoaaGreatDoor
set_option maxRecDepth 100000
open Go.RowKit Go.ChangeShapes Go.WideShapes Go.Joins
/-- the cells that a term repeats -/
def ownC (c : St) (g : Tms) : List St := if g.cnt = 0 then [c] else g.cells
theorem own_one (c : St) : ownC c .nil = [c] := rfl
theorem own_grp (c : St) {g : Tms} (h : 0 < g.cnt) : ownC c g = g.cells := by rw [ownC, if_neg (by omega)]
theorem cells_own (N : Int) (c : St) (g r : Tms) : (Tms.cons N c g r).cells = rep N.toNat (ownC c g) ++ r.cells := by
  by_cases h : g = .nil
  · subst h
    rw [cells_one, own_one, rep_one]
  · rw [cells_grp _ _ _ _ h, ownC, if_neg (fun e => h (cnt_nil e))]
set_option maxHeartbeats 4000000 in
theorem expand_any : ∀ (M : Nat), M ≤ 5000 → ∀ (t : Tms), t.size ≤ M → fineT t = true → t.cells.length ≤ 200 → ∀ (A : Option Addr) (n cap : Nat) (w : World), Tv w A n t →
    Calls Tryz.prog 42 #[.slice A n cap] w (StsR t.cells w) := by
  intro M
  induction M using Nat.strongRecOn with
  | ind M ih =>
    intro hM t ht hf hcl A n cap w hv
    have HI := Lib.hid ih
    have HV := Lib.hid hv
    have hnm : n ≤ 5000 := by have h1 := hv.1; have h2 := cnt_size t; omega
    have HF := Lib.hid hf
    clear ih hv hf
    go_enter Tryz.func42, Tryz.ntmps42
    go_wp2_with fail
    go_loopw [3, 9] (fun u i wr => ∃ (V : Value) (k : Nat) (pre : List St) (rest : Tms), V = u ∧ i = .int .i64 k ∧ rest.cnt + k = n ∧ rest.size ≤ M ∧ pre.length + rest.cells.length ≤ 200 ∧
      Hid (OwnV shSt wr w.heap.size 39 V pre.length pre ∧ pre ++ rest.cells = t.cells ∧ fineT rest = true ∧ Ext w wr ∧ (0 < rest.cnt → ∃ b off, A = some ⟨b, off, none⟩ ∧ b < w.heap.size ∧ TAt w rest b (off + k * 6)))) (fun _ i _ => n - (intOf i).toNat)
    case atStart =>
      refine ⟨_, 0, [], t, rfl, rfl, by have := HV.out.1; omega, ht, by simpa using hcl, Lib.hid ⟨OwnV.nil _ _ _ _, rfl, HF.out, Ext.refl _, fun h => ?_⟩⟩
      obtain ⟨h1, h2, h3⟩ := HV.out
      obtain ⟨b, off, e, hb, hc⟩ := h3 (by omega)
      exact ⟨b, off, e, hb, by simpa using hc⟩
    case round =>
      obtain ⟨V, k, pre, rest, rfl, rfl, hcnt, hrs, hpl, HH⟩ := hrel
      by_cases hlt : 0 < rest.cnt
      · obtain ⟨N, c, g, r, rfl⟩ := cnt_cons hlt
        obtain ⟨b, off, rfl, hb1, hc⟩ := HH.out.2.2.2.2 hlt
        obtain ⟨A', n', cap', d0, d1, d2, d3, d4, d5, hkk, hg, hr⟩ := hc.head
        have hxr := HH.out.2.2.2.1
        obtain ⟨⟨hN0, hN1⟩, hfg, hfr⟩ := fine_cons HH.out.2.2.1
        have HFR := Lib.hid hfr
        simp only [Tms.cnt, Tms.size] at hcnt hrs
        have hkn : k < n := by omega
        have hz : b < wr.heap.size := Nat.lt_of_lt_of_le hb1 (Below.size hxr)
        have HCS := Lib.hid (cells_own N c g r)
        have hcb : (rep N.toNat (ownC c g)).length + r.cells.length = (Tms.cons N c g r).cells.length := by rw [HCS.out, List.length_append]
        rw [rep_len] at hcb
        have hgcl : 0 < g.cnt → g.cells.length ≤ 200 := fun h => by
          rw [own_grp c h] at hcb
          have : 1 * g.cells.length ≤ N.toNat * g.cells.length := Nat.mul_le_mul_right _ (by omega)
          omega
        have hcall := fun (h0 : 0 < g.cnt) (w' : World) (h : Ext w w') => HI.out (M - 1) (by omega) (by omega) g (by omega) hfg (hgcl h0) A' n' cap' w' (hg.ext h)
        have HC := Lib.hid hcall
        have hgn := Lib.hid hg.1
        have q0 : (0 : Int) ≤ (k : Int) := by omega
        have q1 : (k : Int) < (n : Int) := by omega
        have HE0 := Lib.hid hxr
        have HCB := Lib.hid hcb
        have HKK := Lib.hid hkk
        obtain ⟨ck, cp, ca, cb⟩ := c
        simp only at d1 d2 d3 d4
        obtain ⟨wq, rfl⟩ : ∃ wq : World, wq = wr := ⟨_, rfl⟩
        have fwd : ∀ (o : Nat) (u : Value), w.cell? ⟨b, o, none⟩ = some u → wq.cell? ⟨b, o, none⟩ = some u := fun o u h => (Below.cell (p := ⟨b, o, none⟩) hxr hb1).trans h
        have c0 := fwd _ _ d0
        have c1 := fwd _ _ d1
        have c2 := fwd _ _ d2
        have c3 := fwd _ _ d3
        have c4 := fwd _ _ d4
        have c5 := fwd _ _ d5
        have HBL := Lib.hid (show ∀ b, wq.heap.size ≤ b → some b ≠ V.ownBlock from fun b hb e => by have := (OwnV.blk HH.out.1 b e.symm).2; omega)
        clear hcall hc hxr hfr hfg hgcl hcb hkk fwd
        by_cases hn' : 0 < n'
        · have HOW := Lib.hid (own_grp ⟨ck, cp, ca, cb⟩ (g := g) (by have := hgn.out; omega))
          go_wp2_with (go_at_call 42; ((with_reducible refine (HC.out (by have := hgn.out; omega) _ (HE0.out.trans (by repeat (first | exact Ext.refl _ | assumption | refine Ext.alloc ?_ _ | refine Ext.drew ?_ | refine Ext.drewN ?_ _ | refine Ext.trans ?_ (by assumption))))).mono ?_); rintro e w1 ⟨A1, m1, cap1, rfl, hq1, hv1, hbl1⟩; obtain ⟨hf1, hf2, hf3⟩ := hq1.facts))
          have HXW := Lib.hid (show Ext wq w1 by repeat (first | exact Ext.refl _ | assumption | refine Ext.alloc ?_ _ | refine Ext.drew ?_ | refine Ext.drewN ?_ _ | refine Ext.trans ?_ (by assumption)))
          have HOV := Lib.hid (show VecX w1 V.ownBlock A1 m1 g.cells from ⟨hv1, fun h b off e => HBL.out b (by have := hbl1 h b off e; simp at this; omega)⟩)
          clear hv1 hq1 hbl1
          have HL1 := Lib.hid (HOV.out.1.len)
          have HB := Lib.hid (show pre.length + N.toNat * m1 + r.cells.length ≤ 200 by have h1 := HCB.out; rw [HOW.out, HL1.out] at h1; omega)
          have HCS2 := Lib.hid (show (Tms.cons N ⟨ck, cp, ca, cb⟩ g r).cells = rep N.toNat g.cells ++ r.cells by rw [HCS.out, HOW.out])
          clear hpl
          go_loopw [3, 25] (fun u j wi => ∃ (V : Value) (q : Nat), V = u ∧ q ≤ N.toNat ∧ j = .int .i64 q ∧ Hid (OwnV shSt wi w.heap.size 39 V (pre.length + q * m1) (pre ++ rep q g.cells)) ∧ Hid (VecX wi V.ownBlock A1 m1 g.cells ∧ Ext w wi)) (fun _ j _ => N.toNat - (intOf j).toNat)
          case atStart => exact ⟨_, 0, rfl, by omega, rfl, Lib.hid (by have := (HH.out.1).ext HXW.out; simpa [rep] using this), Lib.hid ⟨HOV.out, HE0.out.trans HXW.out⟩⟩
          case round =>
            obtain ⟨V2, q, rfl, hq, rfl, hown, hexi⟩ := hrel
            have hx0 := hexi.out.2
            obtain ⟨hz1, hz2, hz3⟩ := hx0.facts
            by_cases hlq : q < N.toNat
            · have qN : (q : Int) < N := by omega
              have HKB := Lib.hid (show pre.length + q * m1 + m1 ≤ 1000000 by
                have h1 : (q + 1) * m1 ≤ N.toNat * m1 := Nat.mul_le_mul_right _ (by omega)
                rw [Nat.add_mul, Nat.one_mul] at h1
                have := HB.out
                omega)
              go_wp2_with (at_builtin; refine wpList_append_vecsB (S := shSt) (w := w) 35 39 (.agg #[.int .u8 0, .bool false, .int .i64 0, .int .i64 0]) 24 (by rfl) (by rfl) Tryz.underlying35 info_st (by rfl) (by omega) (by rfl) (by rfl) hown.out hx0 hexi.out.1.1 HKB.out ?_; intro v' w3 hown3 hext3 hgr3)
              go_roundw
              case rel =>
                refine ⟨v', q + 1, rfl, by omega, by go_num, Lib.hid ?_, Lib.hid ⟨hexi.out.1.step hgr3.out.1 hgr3.out.2, hext3.out⟩⟩
                have e1 : pre.length + (q + 1) * m1 = pre.length + q * m1 + m1 := by rw [Nat.add_mul, Nat.one_mul]; omega
                rw [e1, rep_snoc, ← List.append_assoc]
                exact hown3
              case measure => simp [intOf]; omega
            · obtain rfl : q = N.toNat := by omega
              have qN : ¬ ((N.toNat : Int) < N) := by omega
              go_wp2
              go_roundw
              case rel =>
                obtain ⟨e2, e3, e4, e5, -⟩ := HH.out
                refine ⟨V2, k + 1, pre ++ rep N.toNat g.cells, r, rfl, by go_num, by omega, by omega, ?_, Lib.hid ⟨?_, ?_, HFR.out, hx0, fun h => ?_⟩⟩
                · rw [List.length_append, rep_len, HL1.out]; have := HB.out; omega
                · rw [List.length_append, rep_len, HL1.out]
                  exact hown.out
                · rw [← e3, HCS2.out, List.append_assoc]
                · refine ⟨b, off, rfl, hb1, ?_⟩
                  rw [show off + (k + 1) * 6 = off + k * 6 + 6 by omega]
                  exact hr
              case measure => simp [intOf]; omega
        · obtain rfl := cnt_nil (t := g) (by have := hgn.out; omega)
          obtain rfl : n' = 0 := by omega
          have HOW := Lib.hid (own_one ⟨ck, cp, ca, cb⟩)
          go_wp2_with fail
          have HXW := Lib.hid (show Ext wq ((wq.alloc (.cells #[.int .i64 N, .int .u8 ck, .bool cp, .int .i64 ca, .int .i64 cb, .slice A' 0 cap'] 48)).alloc (.cells #[.int .u8 ck, .bool cp, .int .i64 ca, .int .i64 cb] 39)) by repeat (first | exact Ext.refl _ | assumption | refine Ext.alloc ?_ _ | refine Ext.drew ?_ | refine Ext.drewN ?_ _ | refine Ext.trans ?_ (by assumption)))
          have HOV := Lib.hid (show VecX ((wq.alloc (.cells #[.int .i64 N, .int .u8 ck, .bool cp, .int .i64 ca, .int .i64 cb, .slice A' 0 cap'] 48)).alloc (.cells #[.int .u8 ck, .bool cp, .int .i64 ca, .int .i64 cb] 39)) V.ownBlock (some ⟨(wq.heap.size + 1), 0, none⟩) 1 [⟨ck, cp, ca, cb⟩] from ⟨Vec.lit2 (by simp) rfl rfl, fun h b off e => HBL.out b (by cases e; omega)⟩)
          have HL1 := Lib.hid (HOV.out.1.len)
          have HB := Lib.hid (show pre.length + N.toNat * 1 + r.cells.length ≤ 200 by have h1 := HCB.out; rw [HOW.out, HL1.out] at h1; omega)
          have HCS2 := Lib.hid (show (Tms.cons N ⟨ck, cp, ca, cb⟩ .nil r).cells = rep N.toNat [⟨ck, cp, ca, cb⟩] ++ r.cells by rw [HCS.out, HOW.out])
          clear hpl
          go_loopw [3, 25] (fun u j wi => ∃ (V : Value) (q : Nat), V = u ∧ q ≤ N.toNat ∧ j = .int .i64 q ∧ Hid (OwnV shSt wi w.heap.size 39 V (pre.length + q * 1) (pre ++ rep q [⟨ck, cp, ca, cb⟩])) ∧ Hid (VecX wi V.ownBlock (some ⟨(wq.heap.size + 1), 0, none⟩) 1 [⟨ck, cp, ca, cb⟩] ∧ Ext w wi)) (fun _ j _ => N.toNat - (intOf j).toNat)
          case atStart => exact ⟨_, 0, rfl, by omega, rfl, Lib.hid (by have := (HH.out.1).ext HXW.out; simpa [rep] using this), Lib.hid ⟨HOV.out, HE0.out.trans HXW.out⟩⟩
          case round =>
            obtain ⟨V2, q, rfl, hq, rfl, hown, hexi⟩ := hrel
            have hx0 := hexi.out.2
            obtain ⟨hz1, hz2, hz3⟩ := hx0.facts
            by_cases hlq : q < N.toNat
            · have qN : (q : Int) < N := by omega
              have HKB := Lib.hid (show pre.length + q * 1 + 1 ≤ 1000000 by
                have h1 : (q + 1) * 1 ≤ N.toNat * 1 := Nat.mul_le_mul_right _ (by omega)
                rw [Nat.add_mul, Nat.one_mul] at h1
                have := HB.out
                omega)
              go_wp2_with (at_builtin; refine wpList_append_vecsB (S := shSt) (w := w) 35 39 (.agg #[.int .u8 0, .bool false, .int .i64 0, .int .i64 0]) 24 (by rfl) (by rfl) Tryz.underlying35 info_st (by rfl) (by omega) (by rfl) (by rfl) hown.out hx0 hexi.out.1.1 HKB.out ?_; intro v' w3 hown3 hext3 hgr3)
              go_roundw
              case rel =>
                refine ⟨v', q + 1, rfl, by omega, by go_num, Lib.hid ?_, Lib.hid ⟨hexi.out.1.step hgr3.out.1 hgr3.out.2, hext3.out⟩⟩
                have e1 : pre.length + (q + 1) * 1 = pre.length + q * 1 + 1 := by rw [Nat.add_mul, Nat.one_mul]; omega
                rw [e1, rep_snoc, ← List.append_assoc]
                exact hown3
              case measure => simp [intOf]; omega
            · obtain rfl : q = N.toNat := by omega
              have qN : ¬ ((N.toNat : Int) < N) := by omega
              go_wp2
              go_roundw
              case rel =>
                obtain ⟨e2, e3, e4, e5, -⟩ := HH.out
                refine ⟨V2, k + 1, pre ++ rep N.toNat [⟨ck, cp, ca, cb⟩], r, rfl, by go_num, by omega, by omega, ?_, Lib.hid ⟨?_, ?_, HFR.out, hx0, fun h => ?_⟩⟩
                · rw [List.length_append, rep_len, HL1.out]; have := HB.out; omega
                · rw [List.length_append, rep_len, HL1.out]
                  exact hown.out
                · rw [← e3, HCS2.out, List.append_assoc]
                · refine ⟨b, off, rfl, hb1, ?_⟩
                  rw [show off + (k + 1) * 6 = off + k * 6 + 6 by omega]
                  exact hr
              case measure => simp [intOf]; omega
      · have hn0 : rest.cnt = 0 := by omega
        obtain rfl := cnt_nil hn0
        simp only [Tms.cnt] at hcnt
        obtain ⟨e1, e2, e3, e4, -⟩ := HH.out
        simp only [Tms.cells, List.append_nil] at e2
        obtain rfl : k = n := by omega
        obtain ⟨A2, c2, rfl, hv2, hb2⟩ := own_vecB e1
        have HK2 := Lib.hid (show Vec shSt wr A2 pre.length t.cells ∧ (0 < pre.length → ∀ b off, A2 = some ⟨b, off, none⟩ → w.heap.size ≤ b) by rw [← e2]; exact ⟨hv2, hb2⟩)
        have HE := Lib.hid e4
        clear e1 e2 e3 e4 hv2 hb2
        go_wp2_with fail
        go_ret
        exact ⟨_, _, _, rfl, HE.out, HK2.out.1, HK2.out.2⟩
end Go.Proofs.YtfbfkoeaihknoaaGreatDoor
