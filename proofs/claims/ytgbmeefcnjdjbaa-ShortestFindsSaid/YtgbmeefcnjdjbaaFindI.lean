/- The finder of the shortest list: list. -/
import Derived.Test.YtgbmeefcnjdjbaaFindH
import Derived.Test.YtgbmeefcnjdjbaaTmsF
namespace Go.Proofs.Ytgbmeefcnjdjbaa
set_option maxRecDepth 100000
set_option maxRecDepth 100000
open Go.RowKit Go.ChangeShapes Go.WideShapes Go.Joins
/-- a world from which, one block apart, the later one has only grown, and that differs from the first in that block alone -/
theorem But.base2 {g : Nat} {w w' : World} (h : But (some g) w w') : ∃ wk : World, wk.heap.size = w.heap.size ∧ Ext wk w' ∧ But (some g) w wk := by
  by_cases hg : g < w.heap.size
  · have hg2 : g < w'.heap.size := Nat.lt_of_lt_of_le hg h.size
    refine ⟨{ w with heap := w.heap.modify g (fun _ => w'.heap[g]) }, by simp, ⟨h.os, h.tape, h.output, by simpa using h.size, fun k hk => ?_⟩, ⟨rfl, rfl, rfl, by simp, fun k _ hne => ?_⟩⟩
    · have hk2 : k < w.heap.size := by simpa using hk
      show w'.heap[k]? = (w.heap.modify g (fun _ => w'.heap[g]))[k]?
      rw [Array.getElem?_modify]
      by_cases e : g = k
      · subst e
        simp [hg, hg2]
      · rw [if_neg e]
        exact h.block k hk2 (by intro e9; cases e9; exact e rfl)
    · show (w.heap.modify g (fun _ => w'.heap[g]))[k]? = w.heap[k]?
      rw [Array.getElem?_modify, if_neg (by rintro rfl; exact hne rfl)]
  · exact ⟨w, rfl, ⟨h.os, h.tape, h.output, h.size, fun k hk => h.block k hk (by intro e9; cases e9; omega)⟩, But.refl _ _⟩
theorem FAt.far {w w' wk : World} {g n c : Nat} {A : Option Addr} {tab : Nat → Nat → Chc} (h : FAt w g n c A tab) (h1 : Ext wk w) (h2 : Ext wk w') (hg : g < wk.heap.size) : FAt w' g n c A tab := by
  obtain ⟨a1, a2, -⟩ := h1.facts
  obtain ⟨b1, b2, -⟩ := h2.facts
  exact ⟨(b1 _ _ hg).trans ((a1 _ _ hg).symm.trans h.hd), fun o => (b2 _ _ hg).trans ((a2 _ _ hg).symm.trans (h.fz o)), fun a m i ha hm hi => (b1 _ _ hg).trans ((a1 _ _ hg).symm.trans (h.tb a m i ha hm hi))⟩
/-- a list of one term just laid -/
theorem one_tm (w : World) (B : Nat) (e : TypeId) (N k : Int) (p : Bool) (a b : Int) {A : Option Addr} {n cap : Nat} {g : Tms} (hB : B ≤ w.heap.size) (hk : 0 ≤ k ∧ k ≤ 255) (hg : TvK w (fun b => B ≤ b) A n g) :
    OwnT (w.alloc (.cells #[.int .i64 N, .int .u8 k, .bool p, .int .i64 a, .int .i64 b, .slice A n cap] e)) B e (.slice (some ⟨w.heap.size, 0, none⟩) 1 1) 1 (.cons N ⟨k, p, a, b⟩ g .nil) := by
  refine ⟨rfl, [.int .i64 N, .int .u8 k, .bool p, .int .i64 a, .int .i64 b, .slice A n cap], ⟨rfl, .inr ⟨w.heap.size, 1, _, rfl, hB, heap_alloc_new w _, Nat.le_refl _, by unfold maxLen; omega, rfl, rfl⟩⟩, A, n, cap, [], rfl, hk, ?_, rfl⟩
  refine hg.keep (by simp) fun b' hlt hb => ⟨⟨hb, ?_⟩, fun o => ?_⟩
  · simp only [Value.ownBlock]
    intro e9
    cases e9
    omega
  · exact Below.cell (p := ⟨b', o, none⟩) ((Ext.refl w).alloc _) hlt
theorem OwnT.far {w w' : World} {B g k : Nat} {e : TypeId} {v : Value} {t : Tms} (h : OwnT w B e v k t) (hb : But (some g) w w') (hg : g < B) : OwnT w' B e v k t := by
  obtain ⟨h1, L, h2, h3⟩ := h
  refine ⟨h1, L, World.ownsRow.kept h2 hb (.inr ?_), h3.but hb fun b _ hb => ⟨hb, ?_⟩⟩
  · intro e9
    have := (own_blk h2 g e9).1
    omega
  · intro e9
    cases e9
    omega
theorem OwnT.low {w : World} {B B' k : Nat} {e : TypeId} {v : Value} {t : Tms} (h : OwnT w B e v k t) (hB : B' ≤ B) : OwnT w B' e v k t := by
  obtain ⟨h1, L, h2, h3⟩ := h
  refine ⟨h1, L, ⟨h2.1, ?_⟩, h3.keep (Nat.le_refl _) fun b _ hb => ⟨⟨by omega, hb.2⟩, fun _ => rfl⟩⟩
  rcases h2.2 with h | ⟨g, cap, cur, e1, hb, r⟩
  · exact .inl h
  · exact .inr ⟨g, cap, cur, e1, by omega, r⟩
/-- where what is put together lies -/
theorem OwnT.lies {w : World} {B k : Nat} {e : TypeId} {v : Value} {t : Tms} (h : OwnT w B e v k t) : ∃ A c L, v = .slice A k c ∧ RwK w (fun b => B ≤ b ∧ some b ≠ v.ownBlock) t L ∧ t.cnt = k ∧ (0 < k → ∃ ad, A = some ad ∧ ∀ j u, L[j]? = some u → w.cell? (ad.add j) = some u) := by
  obtain ⟨h1, L, h2, h3⟩ := h
  have hf : 0 < k → ∃ g cap, v = .slice (some ⟨g, 0, none⟩) k cap := fun hk => by
    obtain ⟨g, cap, hv, _, _⟩ := World.ownsRow.form h2 hk
    exact ⟨g, cap, hv⟩
  have hs : ∃ A c, v = .slice A k c := by
    rcases h2.2 with ⟨e1, e2⟩ | ⟨g, cap, cur, e1, _⟩
    · subst e2; exact ⟨none, 0, e1⟩
    · exact ⟨_, _, e1⟩
  obtain ⟨A, c, rfl⟩ := hs
  refine ⟨A, c, L, rfl, h3, h1, fun hk => ?_⟩
  obtain ⟨g, cap, hv⟩ := hf hk
  cases hv
  refine ⟨_, rfl, fun j u hu => ?_⟩
  rw [add_plain, Nat.zero_add]
  have hj : j < k * 6 := by rw [← h1, ← h3.len]; exact (List.getElem?_eq_some_iff.1 hu).1
  rw [World.ownsRow.cellAt h2 _ hj]
  exact hu
/-- what list has done -/
def ListR (l : List St) (g n c : Nat) (A : Option Addr) (T : TypeId) (t : Tms) (w : World) (e : Ending) (w' : World) : Prop :=
  ∃ v tab', e = .returned v ∧ FAt w' g n c A tab' ∧ (∀ N, TabOk l tab' N) ∧ But (some g) w w' ∧ OwnT w' w.heap.size T v t.cnt t
/-- what was put together by two calls, appended -/
theorem wp_append_two {P : Program} {o : Oper} {a : Act} {K : Act → World → Prop} {Q : Exit → Act → World → Prop} {w1 w2 wx : World} {g : Nat} (T e : TypeId) (z : Value) (bytes : Nat) {s x : Operand} {v1 v2 : Value} {t r : Tms}
    (ho : o.op = .call { callee := .builtin .append, args := #[s, x], argTypes := #[T, T] })
    (ht : P.underlying T = some (.slice e)) (hinfo : (P.info? e).map (fun i => (i.zero, i.size, i.bytes)) = some (some z, 6, bytes)) (hzs : z.cells.size = 6) (hby : bytes ≤ 1000)
    (hs : a.eval s = v1) (hx : a.eval x = v2) (h1 : OwnT w2 w1.heap.size e v1 t.cnt t) (h2 : OwnT wx w2.heap.size e v2 r.cnt r) (b1 : But (some g) w1 w2) (b2 : But (some g) w2 wx) (hg : g < w1.heap.size) (hk : t.cnt + r.cnt ≤ 1000000)
    (h : ∀ v' w3, OwnT w3 w1.heap.size e v' (t.cnt + r.cnt) (t.app r) → Hid (But (some g) w1 w3) → Hid (∀ n c A tab, FAt wx g n c A tab → FAt w3 g n c A tab) → K (a.put o.dst v') w3) : o.wp P a wx K Q := by
  obtain ⟨wk, hsz, hext, hbk⟩ := But.base2 (b1.trans b2)
  have h1' := h1.far b2 hg
  obtain ⟨A, c, L, rfl, hL, hrc, hA⟩ := h2.lies
  have hw2 := b1.size
  have hob : ∀ b, w2.heap.size ≤ b → some b ≠ v1.ownBlock := fun b hb e9 => by
    obtain ⟨_, L1, hL1, _⟩ := h1
    have := (own_blk hL1 b e9.symm).2
    omega
  rw [← hsz] at h1'
  refine wp_append_tms (w := wk) T e z bytes ho ht hinfo hzs hby hs hx h1' hext rfl (hL.keep (Nat.le_refl _) fun b _ hb => ⟨⟨by omega, hob b hb.1⟩, fun _ => rfl⟩) hA hk ?_
  intro v' w3 g1 g2
  refine h v' w3 (by rw [← hsz]; exact g1) (Lib.hid ?_) (Lib.hid fun n c A tab hf => hf.far hext g2.out (by omega))
  exact hbk.trans (But.of_ext g2.out _)
theorem step_append_two {P : Program} {ops : Array Oper} {E : Prop} {o : Oper} {a : Act} {K : Act → World → Prop} {Q : Exit → Act → World → Prop} {w1 w2 wx : World} {g : Nat} (T e : TypeId) (z : Value) (bytes : Nat) {s x : Operand} {v1 v2 : Value} {t r : Tms}
    (hgd : o.guard = none) (ho : o.op = .call { callee := .builtin .append, args := #[s, x], argTypes := #[T, T] })
    (ht : P.underlying T = some (.slice e)) (hinfo : (P.info? e).map (fun i => (i.zero, i.size, i.bytes)) = some (some z, 6, bytes)) (hzs : z.cells.size = 6) (hby : bytes ≤ 1000)
    (hs : a.eval s = v1) (hx : a.eval x = v2) (h1 : OwnT w2 w1.heap.size e v1 t.cnt t) (h2 : OwnT wx w2.heap.size e v2 r.cnt r) (b1 : But (some g) w1 w2) (b2 : But (some g) w2 wx) (hg : g < w1.heap.size) (hk : t.cnt + r.cnt ≤ 1000000)
    (h : ∀ v' w3, OwnT w3 w1.heap.size e v' (t.cnt + r.cnt) (t.app r) → Hid (But (some g) w1 w3) → Hid (∀ n c A tab, FAt wx g n c A tab → FAt w3 g n c A tab) → K (a.put o.dst v') w3) :
    if Region.wanted o (yielded ops a.tmps) = true then Oper.wp P o a wx K Q else E := by
  have hw : Region.wanted o (yielded ops a.tmps) = true := by simp [Region.wanted, hgd]
  rw [if_pos hw]
  exact wp_append_two T e z bytes ho ht hinfo hzs hby hs hx h1 h2 b1 b2 hg hk h
theorem mkT_cnt : ∀ (M : Nat) (l : List St), l ≠ [] → l.length ≤ M → (mkT M l).cnt ≤ l.length := by
  intro M l hl hM
  have h1 := (mkT_is M l hl hM).size
  have h2 := cnt_size (mkT M l)
  have h3 := ch_le l.length rfl hl
  omega
end Go.Proofs.Ytgbmeefcnjdjbaa
