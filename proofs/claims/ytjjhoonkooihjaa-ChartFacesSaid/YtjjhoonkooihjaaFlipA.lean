/- The sides of rows turned in memory: plain lemmas for Flip. -/
import Derived.Test.YtjjhoonkooihjaaFaceD
namespace Go.Proofs.Ytjjhoonkooihjaa
open Go.RowKit Go.ChangeShapes Go.WideShapes Go.Joins
def flR (x : Raw) : Raw := ⟨!x.b, x.A, x.n, x.c⟩
def flRo (r : Ro) : Ro := ⟨!r.back, r.cells⟩
/-- the other side of rows -/
def flipL (l : List Ro) : List Ro := l.map flRo
theorem flip_len (l : List Ro) : (flipL l).length = l.length := by simp [flipL]
/-- the first k are turned -/
def fkR (k : Nat) (l : List Raw) : List Raw := (l.take k).map flR ++ l.drop k
theorem fk_zero (l : List Raw) : fkR 0 l = l := by simp [fkR]
theorem fk_all (l : List Raw) : fkR l.length l = l.map flR := by simp [fkR]
theorem fk_len (k : Nat) (l : List Raw) : (fkR k l).length = l.length := by simp [fkR]; omega
theorem fk_get {k : Nat} {l : List Raw} (j : Nat) : (fkR k l)[j]? = if j < k then (l[j]?).map flR else l[j]? := by
  unfold fkR
  rcases Nat.lt_or_ge k l.length with hk | hk
  · rw [List.getElem?_append]
    simp only [List.length_map, List.length_take, Nat.min_eq_left (Nat.le_of_lt hk), List.getElem?_map, List.getElem?_take, List.getElem?_drop]
    by_cases h : j < k
    · simp [h]
    · simp only [h, if_false]; congr 1; omega
  · rw [List.take_of_length_le hk, List.drop_of_length_le hk, List.append_nil, List.getElem?_map]
    split
    · rfl
    · rename_i h
      rw [List.getElem?_eq_none (by omega)]
      rfl
theorem fk_at {k : Nat} {l : List Raw} (h : k < l.length) : (fkR k l)[k]? = some (l.getD k raw0) := by
  rw [fk_get, if_neg (Nat.lt_irrefl _), getRaw h]
/-- one more is turned -/
theorem vec_flip {w : World} {g off m k : Nat} {l : List Raw} (h : Vec shRaw w (some ⟨g, off, none⟩) m (fkR k l)) (hk : k < m) :
    Vec shRaw (w.setCell ⟨g, off + k * 2, none⟩ (.bool (!(l.getD k raw0).b))) (some ⟨g, off, none⟩) m (fkR (k + 1) l) := by
  have hl : l.length = m := by rw [← fk_len k l]; exact h.1
  obtain ⟨b, off', e, hlt, hc⟩ := h.2 (by omega)
  cases e
  refine ⟨by rw [fk_len]; exact hl, fun _ => ⟨g, off, rfl, by simpa using hlt, fun j x hx i u hu => ?_⟩⟩
  have hi : i < 2 := by
    rcases Nat.lt_or_ge i 2 with h9 | h9
    · exact h9
    · rw [List.getElem?_eq_none (by simp [shRaw]; omega)] at hu; cases hu
  rw [fk_get] at hx
  by_cases hj : j = k
  · subst hj
    rw [if_pos (by omega), getRaw (by omega)] at hx
    cases hx
    have h0 := hc j _ (fk_at (by omega))
    rcases i with _ | _ | i
    · have hu2 : u = .bool (!(l.getD j raw0).b) := by simp [shRaw, flR] at hu; rw [← hu, List.getD_eq_getElem?_getD]
      subst hu2
      exact World.cell?_setCell_same _ _ _ (h0 0 _ rfl)
    · have hu2 : u = .slice (l.getD j raw0).A (l.getD j raw0).n (l.getD j raw0).c := by simp [shRaw, flR] at hu; rw [← hu, List.getD_eq_getElem?_getD]
      subst hu2
      refine (World.cell?_setCell_other _ _ _ _ (by simp [shRaw])).trans (h0 1 _ rfl)
    · omega
  · refine (World.cell?_setCell_other _ _ _ _ (by first | (simp [shRaw]; done) | (simp [shRaw]; omega))).trans (hc j x ?_ i u hu)
    rw [fk_get]
    by_cases h1 : j < k
    · rw [if_pos h1]; rwa [if_pos (by omega)] at hx
    · rw [if_neg h1]; rwa [if_neg (by omega)] at hx
theorem vec_side {w : World} {g off m k : Nat} {l : List Raw} (h : Vec shRaw w (some ⟨g, off, none⟩) m (fkR k l)) (hk : k < m) : w.cell? ⟨g, off + k * 2, none⟩ = some (.bool (l.getD k raw0).b) := by
  have hl : l.length = m := by rw [← fk_len k l]; exact h.1
  obtain ⟨b, off', e, hlt, hc⟩ := h.2 (by omega)
  cases e
  exact hc k _ (fk_at (by omega)) 0 _ rfl
/-- between two rounds: only the rows' own block has been written -/
def FlI (wl : World) (A : Option Addr) (m : Nat) (raws : List Raw) (k : Nat) (w : World) : Prop :=
  w.heap.size = wl.heap.size ∧ (∀ b o, (∀ g off, A = some ⟨g, off, none⟩ → b ≠ g) → w.cell? ⟨b, o, none⟩ = wl.cell? ⟨b, o, none⟩) ∧ (∀ p, w.frozen? p = wl.frozen? p) ∧ Vec shRaw w A m (fkR k raws)
theorem FlI.start {wl : World} {A : Option Addr} {m : Nat} {raws : List Raw} (h : Vec shRaw wl A m raws) : FlI wl A m raws 0 wl := ⟨rfl, fun _ _ _ => rfl, fun _ => rfl, by rw [fk_zero]; exact h⟩
theorem FlI.step {wl w : World} {g off m k : Nat} {raws : List Raw} (h : FlI wl (some ⟨g, off, none⟩) m raws k w) (hk : k < m) : FlI wl (some ⟨g, off, none⟩) m raws (k + 1) (w.setCell ⟨g, off + k * 2, none⟩ (.bool (!(raws.getD k raw0).b))) := by
  obtain ⟨h1, h2, h3, h4⟩ := h
  refine ⟨by simp [h1], fun b o hb => ?_, fun p => (World.frozen?_setCell _ _ _ _).trans (h3 p), vec_flip h4 hk⟩
  rw [World.cell?_setCell_other _ ⟨g, off + k * 2, none⟩ ⟨b, o, none⟩ _ (fun e => by cases e; exact hb g off rfl rfl)]
  exact h2 b o hb
/-- what the rows read as in the end -/
theorem FlI.rws {wl w w1 : World} {e : TypeId} {A : Option Addr} {m c lo B : Nat} {raws : List Raw} {la : List Ro} (h : FlI wl A m raws m w) (hv : OwnV shRaw w1 B e (.slice A m c) m raws) (hr : RosAt w1 (Kr w1 B (.slice A m c)) raws la) (hz : w1.heap.size ≤ wl.heap.size) (hk : ∀ b o, b < w1.heap.size → B ≤ b → wl.cell? ⟨b, o, none⟩ = w1.cell? ⟨b, o, none⟩) (hlo : lo ≤ B) (hm : m ≤ maxLen) :
    Rws w (fun b => lo ≤ b) A m (flipL la) := by
  obtain ⟨h1, h2, h3, h4⟩ := h
  obtain ⟨A', c', e', hvec, hbl⟩ := own_vecB hv
  cases e'
  have hl : raws.length = m := hvec.1
  rw [← hl, fk_all, hl] at h4
  have h5 : RosAt w (fun b => lo ≤ b) raws la := hr.keep (by omega) fun b hb9 hk9 => ⟨Nat.le_trans hlo hk9.1, fun o => (h2 b o fun g off e9 e8 => hk9.2.1 (by rw [e9, e8]; rfl)).trans (hk b o hb9 hk9.1)⟩
  refine ⟨hm, raws.map flR, h4, fun hn b off e9 => Nat.le_trans hlo (hbl hn b off e9), by rw [List.length_map, flip_len]; exact h5.1, fun k hk => ?_⟩
  rw [flip_len] at hk
  obtain ⟨g1, g2, g3, g4, g5⟩ := h5.2 k hk
  have hk2 : k < raws.length := by rw [h5.1]; exact hk
  have e1 : (raws.map flR).getD k raw0 = flR (raws.getD k raw0) := by
    rw [List.getD_eq_getElem?_getD, List.getElem?_map, getRaw hk2]; rfl
  have e2 : (flipL la).getD k ro0 = flRo (la.getD k ro0) := by
    rw [flipL, List.getD_eq_getElem?_getD, List.getElem?_map, List.getElem?_eq_getElem hk, List.getD_eq_getElem?_getD, List.getElem?_eq_getElem hk]; rfl
  rw [e1, e2]
  exact ⟨by simp only [flR, flRo]; rw [g1], g2, g3, g4, g5⟩
/-- the rows' own block, when there are rows -/
theorem own_row {w : World} {B : Nat} {e : TypeId} {A : Option Addr} {m c : Nat} {raws : List Raw} (hv : OwnV shRaw w B e (.slice A m c) m raws) (hm : 0 < m) : ∃ g, A = some ⟨g, 0, none⟩ ∧ B ≤ g ∧ g < w.heap.size ∧ ∀ o, w.frozen? ⟨g, o, none⟩ = false := by
  rcases hv.2 with ⟨h, h0⟩ | ⟨g, cap, cur, h, hB, hg, _⟩
  · omega
  · cases h
    exact ⟨g, rfl, hB, (Array.getElem?_eq_some_iff.1 hg).1, fun o => by simp [World.frozen?, hg]⟩
end Go.Proofs.Ytjjhoonkooihjaa
