/- Parse of Text is the list: the plain law of the texts of stitches. -/
import Derived.Test.YtpcefmopoceiiaaGreatDoorStitchT
namespace Go.Proofs.YtpcefmopoceiiaaGreatDoor
set_option maxRecDepth 100000
/-- what is known of a word that is written -/
structure WordFine (x : St × Nat) : Prop where
  read : readW (wordG x) = (x.1, (x.2 : Int))
  blank : (32 : UInt8) ∉ wordG x
  line : (10 : UInt8) ∉ wordG x
  short : (wordG x).length ≤ 5
  long : 0 < (wordG x).length
theorem word_fine {s : St} {n : Nat} (h : okSt s = true) (h1 : 1 ≤ n) (h2 : n ≤ 200) (h3 : n = 1 ∨ s.k = 1) : WordFine (s, n) := by
  rcases Nat.lt_or_ge 1 n with hn | hn
  · have hk : s.k = 1 := by rcases h3 with h3 | h3; · omega
                            · exact h3
    obtain ⟨hk1, ha, hb, hp⟩ := ok_e h
    rw [hk] at ha hb
    have ha := inR_e ha
    have hb := inR_e hb
    simp [fa0, fa1, fb0, fb1] at ha hb
    obtain ⟨k, p, a, b⟩ := s
    simp only at hk ha hb
    subst hk
    obtain rfl : a = 0 := by omega
    obtain rfl : b = 0 := by omega
    obtain ⟨m, rfl⟩ : ∃ m, n = m + 2 := ⟨n - 2, by omega⟩
    have h5 := List.all_eq_true.1 runs_ok m (List.mem_range.2 (by omega))
    have h6 := List.all_eq_true.1 h5 p (by cases p <;> simp)
    simp only [Bool.and_eq_true, decide_eq_true_eq, Bool.not_eq_true'] at h6
    refine ⟨h6.1.1.1, fun h => ?_, fun h => ?_, h6.2, ?_⟩
    · have := List.contains_iff_mem.2 h; rw [h6.1.1.2] at this; cases this
    · have := List.contains_iff_mem.2 h; rw [h6.1.2] at this; cases this
    · have : 0 < (wordT ⟨1, p, 0, 0⟩).length := by cases p <;> decide
      simp only [wordG, List.length_append]; omega
  · obtain rfl : n = 1 := by omega
    have h5 := List.all_eq_true.1 words_ok s (mem_allSt h)
    simp only [wordOk, Bool.and_eq_true, decide_eq_true_eq, Bool.not_eq_true'] at h5
    have e : wordG (s, 1) = wordT s := by simp [wordG]
    refine ⟨by rw [e]; exact h5.1.1.1.1, fun h => ?_, fun h => ?_, by rw [e]; exact h5.1.2, by rw [e]; exact h5.2⟩
    · rw [e] at h; have := List.contains_iff_mem.2 h; rw [h5.1.1.1.2] at this; cases this
    · rw [e] at h; have := List.contains_iff_mem.2 h; rw [h5.1.1.2] at this; cases this
theorem grp_cons (s : St) (l : List St) : (∃ n g, grp l = (s, n) :: g ∧ s.k = 1 ∧ grp (s :: l) = (s, n + 1) :: g) ∨ (grp (s :: l) = (s, 1) :: grp l ∧ ∀ n g, grp l = (s, n) :: g → s.k ≠ 1) := by
  rcases h : grp l with _ | ⟨⟨t, n⟩, g⟩
  · exact .inr ⟨by simp [grp, h], fun n g e => by cases e⟩
  · by_cases hc : s.k = 1 ∧ s = t
    · obtain ⟨h1, rfl⟩ := hc
      exact .inl ⟨n, g, rfl, h1, by simp [grp, h, h1]⟩
    · refine .inr ⟨by simp only [grp, h]; rw [if_neg hc], fun n' g' e hk => hc ⟨hk, ?_⟩⟩
      injection e with e1 e2
      injection e1 with e1 e3
      exact e1.symm
theorem grp_expand (l : List St) : (grp l).flatMap (fun x => List.replicate x.2 x.1) = l := by
  induction l with
  | nil => rfl
  | cons s l ih =>
    rcases grp_cons s l with ⟨n, g, h1, _, h3⟩ | ⟨h1, _⟩
    · rw [h1] at ih
      rw [h3, List.flatMap_cons] 
      rw [List.flatMap_cons] at ih
      rw [List.replicate_succ, List.cons_append, ih]
    · rw [h1, List.flatMap_cons, ih]; rfl
theorem grp_sum (l : List St) : ((grp l).map (·.2)).sum = l.length := by
  induction l with
  | nil => rfl
  | cons s l ih =>
    rcases grp_cons s l with ⟨n, g, h1, _, h3⟩ | ⟨h1, _⟩
    · rw [h1] at ih
      rw [h3]
      simp at ih ⊢
      omega
    · rw [h1]; simp at ih ⊢; omega
theorem grp_mem {l : List St} : ∀ {x : St × Nat}, x ∈ grp l → x.1 ∈ l ∧ 1 ≤ x.2 ∧ (x.2 = 1 ∨ x.1.k = 1) := by
  induction l with
  | nil => intro x h; cases h
  | cons s l ih =>
    intro x h
    rcases grp_cons s l with ⟨n, g, h1, h2, h3⟩ | ⟨h1, _⟩
    · rw [h3] at h
      rcases List.mem_cons.1 h with rfl | h
      · exact ⟨by simp, by simp, .inr h2⟩
      · have := ih (x := x) (by rw [h1]; simp [h])
        exact ⟨by simp [this.1], this.2⟩
    · rw [h1] at h
      rcases List.mem_cons.1 h with rfl | h
      · exact ⟨by simp, by simp, .inl rfl⟩
      · have := ih h
        exact ⟨by simp [this.1], this.2⟩
theorem grp_ne {l : List St} (h : l ≠ []) : grp l ≠ [] := by
  cases l with
  | nil => exact absurd rfl h
  | cons s l =>
    rcases grp_cons s l with ⟨n, g, _, _, h3⟩ | ⟨h1, _⟩
    · rw [h3]; simp
    · rw [h1]; simp
theorem le_sum {l : List (St × Nat)} {x : St × Nat} (h : x ∈ l) : x.2 ≤ (l.map (·.2)).sum := by
  induction l with
  | nil => cases h
  | cons y l ih =>
    rcases List.mem_cons.1 h with rfl | h
    · simp
    · have := ih h; simp at this ⊢; omega
theorem grp_fine {l : List St} (h : allE l = 0) {x : St × Nat} (hx : x ∈ grp l) : WordFine x := by
  obtain ⟨h1, h2, _, _⟩ := allE_e h
  obtain ⟨m1, m2, m3⟩ := grp_mem hx
  have h4 := le_sum hx
  rw [grp_sum] at h4
  exact word_fine (List.all_eq_true.1 h2 _ m1) m2 (by omega) m3
/-- what Parse does with the words -/
def parseGo : List St → List (List UInt8) → Option (List St)
  | acc, [] => some acc
  | acc, w :: ws => if okSt (readW w).1 = true ∧ (acc.length : Int) + (readW w).2 ≤ 200 then parseGo (acc ++ List.replicate (readW w).2.toNat (readW w).1) ws else none
def parseW (s : List UInt8) : Option (List St) := if s = [] then some [] else parseGo [] (spl 32 s)
def parseL (s : List UInt8) : Option (List St) :=
  if 3000 < s.length then none else (parseW s).bind fun l => if allE l = 0 ∧ textL l = s then some l else none
theorem parseGo_words {gs : List (St × Nat)} : ∀ {acc : List St}, (∀ x ∈ gs, WordFine x ∧ okSt x.1 = true) → acc.length + (gs.map (·.2)).sum ≤ 200 →
    parseGo acc (gs.map wordG) = some (acc ++ gs.flatMap (fun x => List.replicate x.2 x.1)) := by
  induction gs with
  | nil => intro acc _ _; simp [parseGo]
  | cons x gs ih =>
    intro acc h hs
    obtain ⟨hf, hk⟩ := h x (by simp)
    simp only [List.map_cons, List.sum_cons] at hs
    rw [List.map_cons, parseGo, hf.read]
    rw [if_pos ⟨hk, by simp only; omega⟩]
    rw [ih (fun y hy => h y (by simp [hy])) (by simp; omega)]
    simp
theorem text_nil : textL [] = [] := rfl
theorem join_len_le {c : UInt8} {ws : List (List UInt8)} {m : Nat} (h : ∀ w ∈ ws, w.length ≤ m) : (joinB c ws).length ≤ (m + 1) * ws.length := by
  induction ws with
  | nil => simp [joinB]
  | cons x ws ih =>
    have hx := h x (by simp)
    cases ws with
    | nil => simp only [joinB, List.length_cons, List.length_nil]; omega
    | cons y ws =>
      have := ih (fun w hw => h w (by simp at hw ⊢; exact .inr hw))
      simp only [joinB, List.length_append, List.length_cons] at this ⊢
      rw [Nat.mul_add (m + 1) (ws.length + 1) 1, Nat.mul_one]
      omega
theorem grp_len (l : List St) : (grp l).length ≤ l.length := by
  induction l with
  | nil => simp [grp]
  | cons s l ih =>
    rcases grp_cons s l with ⟨n, g, h1, _, h3⟩ | ⟨h1, _⟩
    · rw [h1] at ih; rw [h3]; simp at ih ⊢; omega
    · rw [h1]; simp; omega
/-- a text is never too long -/
theorem text_len {l : List St} (h : allE l = 0) : (textL l).length ≤ 6 * l.length := by
  have h1 := join_len_le (c := 32) (ws := (grp l).map wordG) (m := 5) (fun w hw => by
    obtain ⟨x, hx, rfl⟩ := List.mem_map.1 hw
    exact (grp_fine h hx).short)
  have h2 := grp_len l
  rw [List.length_map] at h1
  unfold textL
  omega
theorem text_short {l : List St} (h : allE l = 0) : (textL l).length ≤ 1200 := by
  have h1 := text_len h
  have h2 := (allE_e h).1
  omega
theorem join_ne {c : UInt8} {ws : List (List UInt8)} (h : ws ≠ []) (hw : ∀ w ∈ ws, 0 < w.length) : joinB c ws ≠ [] := by
  cases ws with
  | nil => exact absurd rfl h
  | cons x ws =>
    have := hw x (by simp)
    cases ws with
    | nil => intro e; rw [joinB] at e; rw [e] at this; simp at this
    | cons y ws => intro e; rw [joinB] at e; simp at e
theorem text_spl {l : List St} (h : allE l = 0) (hl : l ≠ []) : spl 32 (textL l) = (grp l).map wordG :=
  spl_join (by simpa using grp_ne hl) (fun w hw => by
    obtain ⟨x, hx, rfl⟩ := List.mem_map.1 hw
    exact (grp_fine h hx).blank)
/-- Parse of Text is the list -/
theorem parse_text {l : List St} (h : allE l = 0) : parseL (textL l) = some l := by
  have hs := text_short h
  rw [parseL, if_neg (by omega)]
  have hw : parseW (textL l) = some l := by
    rcases List.eq_nil_or_concat l with rfl | ⟨l', x, e⟩
    · rfl
    · have hl : l ≠ [] := by rw [e]; simp
      have hne : textL l ≠ [] := join_ne (by simpa using grp_ne hl) (fun w hw => by
        obtain ⟨x, hx, rfl⟩ := List.mem_map.1 hw
        exact (grp_fine h hx).long)
      rw [parseW, if_neg hne, text_spl h hl, parseGo_words (fun y hy => ⟨grp_fine h hy, List.all_eq_true.1 (allE_e h).2.1 _ (grp_mem hy).1⟩) (by rw [grp_sum]; have := (allE_e h).1; simp; omega), grp_expand]
      simp
  rw [hw, Option.bind_some, if_pos ⟨h, rfl⟩]
theorem parse_iff {s : List UInt8} {l : List St} : parseL s = some l ↔ s.length ≤ 3000 ∧ allE l = 0 ∧ textL l = s := by
  constructor
  · intro h
    unfold parseL at h
    split at h
    · cases h
    · obtain ⟨l', h1, h2⟩ := Option.bind_eq_some_iff.1 h
      split at h2
      · rename_i h3
        cases h2
        exact ⟨by omega, h3⟩
      · cases h2
  · rintro ⟨h1, h2, rfl⟩
    exact parse_text h2
end Go.Proofs.YtpcefmopoceiiaaGreatDoor
