/- Cells appended to what a call has put together, and where it lies then. -/
import Derived.Test.YtfhecgipfhhchaaSts
namespace Go.Proofs.Ytfhecgipfhhchaa
set_option maxRecDepth 100000
open Go.RowKit Go.ChangeShapes Go.WideShapes Go.Joins
theorem own_blk {w : World} {B : Nat} {e : TypeId} {size : Nat} {v : Value} {n : Nat} {xs : List Value} (h : w.ownsRow B e size v n xs) : ∀ k, v.ownBlock = some k → B ≤ k ∧ k < w.heap.size := by
  intro k hk
  rcases h.2 with ⟨h1, _⟩ | ⟨g, cap, cur, h1, hb, hg, _⟩
  · subst h1; simp [Value.ownBlock] at hk
  · subst h1
    simp [Value.ownBlock] at hk
    subst hk
    exact ⟨hb, (Array.getElem?_eq_some_iff.1 hg).1⟩
section
variable {P : Program} {ops : Array Oper} {rest : List Oper} {o : Oper} {a : Act} {K : Act → World → Prop} {Q : Exit → Act → World → Prop} {E : Prop} {w wx : World}
/-- cells appended to what the call has put together -/
theorem wp_append_cells (T e : TypeId) (z : Value) (size bytes : Nat) {s x : Operand} {v : Value} {k m c : Nat} {A : Option Addr} {L news : List Value}
    (ho : o.op = .call { callee := .builtin .append, args := #[s, x], argTypes := #[T, T] })
    (ht : P.underlying T = some (.slice e)) (hinfo : (P.info? e).map (fun i => (i.zero, i.size, i.bytes)) = some (some z, size, bytes)) (hzs : z.cells.size = size) (hsz : 0 < size) (hby : bytes ≤ 1000)
    (hs : a.eval s = v) (hx : a.eval x = .slice A m c) (hown : wx.ownsRow w.heap.size e size v k L) (hext : Ext w wx) (hl : news.length = m * size)
    (hA : 0 < m → ∃ ad, A = some ad ∧ ∀ j u, news[j]? = some u → wx.cell? (ad.add j) = some u) (h1 : ∀ u ∈ news, u.oneCell' = true) (hk : k + m ≤ 1000000)
    (h : ∀ v' w1, w1.ownsRow w.heap.size e size v' (k + m) (L ++ news) → Ext w w1 → wx.grownBy w1 v.ownBlock → (v'.ownBlock = v.ownBlock ∨ v'.ownBlock = some wx.heap.size) → K (a.put o.dst v') w1) : o.wp P a wx K Q := by
  obtain ⟨i0, hi, hz0, hz1, hz2⟩ := info_parts hinfo
  have key : ∃ v' w1, (Builtin.append_ #[T, T] o.type #[v, .slice A m c]).run P wx = .ok v' w1 ∧ w1.ownsRow w.heap.size e size v' (k + m) (L ++ news) ∧ Ext w w1 ∧ wx.grownBy w1 v.ownBlock ∧ (v'.ownBlock = v.ownBlock ∨ v'.ownBlock = some wx.heap.size) := by
    rcases Nat.eq_zero_or_pos m with hm | hm
    · subst hm
      have hn : news = [] := List.eq_nil_of_length_eq_zero (by simpa using hl)
      subst hn
      rcases A with _ | ad
      · exact ⟨v, wx, run_append_of_nil wx _ T o.type e i0 size ht hi v k _ hown c, by simpa using hown, hext, World.grownBy.refl wx _, .inl rfl⟩
      · obtain ⟨v', w1, hrun, h2, h3, h4⟩ := run_append_own_at (P := P) wx w.heap.size T o.type e i0 z size bytes ht hi hz0 hz1 hz2 hzs hsz v k _ hown ad 0 c [] (by simp) (fun j u hu => by simp at hu)
          h1 (by unfold maxLen; omega) (by have := Nat.mul_le_mul (show k + 0 ≤ 1000000 by omega) hby; omega) (Below.size hext)
        exact ⟨v', w1, hrun, h2, Below.grown hext h3 (Below.size hext) (own_base hown), h3, h4.2⟩
    · obtain ⟨ad, rfl, hc⟩ := hA hm
      obtain ⟨v', w1, hrun, h2, h3, h4⟩ := run_append_own_at (P := P) wx w.heap.size T o.type e i0 z size bytes ht hi hz0 hz1 hz2 hzs hsz v k _ hown ad m c news hl hc
        h1 (by unfold maxLen; omega) (by have := Nat.mul_le_mul (show k + m ≤ 1000000 by omega) hby; omega) (Below.size hext)
      exact ⟨v', w1, hrun, h2, Below.grown hext h3 (Below.size hext) (own_base hown), h3, h4.2⟩
  obtain ⟨v', w1, hrun, h2, h3, h4, h5⟩ := key
  unfold Oper.wp execOp
  simp only [ho, resolve, invoke, builtin, Sem.run_bind, Sem.run_pure, Result.andThen_ok, List.map_toArray, List.map_cons, List.map_nil, hs, hx, hrun]
  exact h v' w1 h2 h3 h4 h5
/-- cells appended to a row of its own, wherever that began -/
theorem wp_append_cellsB (T e : TypeId) (z : Value) (size bytes : Nat) {s x : Operand} {v : Value} {k m c : Nat} {A : Option Addr} {L news : List Value}
    (ho : o.op = .call { callee := .builtin .append, args := #[s, x], argTypes := #[T, T] })
    (ht : P.underlying T = some (.slice e)) (hinfo : (P.info? e).map (fun i => (i.zero, i.size, i.bytes)) = some (some z, size, bytes)) (hzs : z.cells.size = size) (hsz : 0 < size) (hby : bytes ≤ 1000)
    (hs : a.eval s = v) (hx : a.eval x = .slice A m c) (B : Nat) (hown : wx.ownsRow B e size v k L) (hB : B ≤ wx.heap.size) (hl : news.length = m * size)
    (hA : 0 < m → ∃ ad, A = some ad ∧ ∀ j u, news[j]? = some u → wx.cell? (ad.add j) = some u) (h1 : ∀ u ∈ news, u.oneCell' = true) (hk : k + m ≤ 1000000)
    (h : ∀ v' w1, w1.ownsRow B e size v' (k + m) (L ++ news) → wx.grownBy w1 v.ownBlock → (v'.ownBlock = v.ownBlock ∨ v'.ownBlock = some wx.heap.size) → K (a.put o.dst v') w1) : o.wp P a wx K Q := by
  obtain ⟨i0, hi, hz0, hz1, hz2⟩ := info_parts hinfo
  have key : ∃ v' w1, (Builtin.append_ #[T, T] o.type #[v, .slice A m c]).run P wx = .ok v' w1 ∧ w1.ownsRow B e size v' (k + m) (L ++ news) ∧ wx.grownBy w1 v.ownBlock ∧ (v'.ownBlock = v.ownBlock ∨ v'.ownBlock = some wx.heap.size) := by
    rcases Nat.eq_zero_or_pos m with hm | hm
    · subst hm
      have hn : news = [] := List.eq_nil_of_length_eq_zero (by simpa using hl)
      subst hn
      rcases A with _ | ad
      · exact ⟨v, wx, run_append_of_nil wx _ T o.type e i0 size ht hi v k _ hown c, by simpa using hown, World.grownBy.refl wx _, .inl rfl⟩
      · obtain ⟨v', w1, hrun, h2, h3, h4⟩ := run_append_own_at (P := P) wx B T o.type e i0 z size bytes ht hi hz0 hz1 hz2 hzs hsz v k _ hown ad 0 c [] (by simp) (fun j u hu => by simp at hu)
          h1 (by unfold maxLen; omega) (by have := Nat.mul_le_mul (show k + 0 ≤ 1000000 by omega) hby; omega) hB
        exact ⟨v', w1, hrun, h2, h3, h4.2⟩
    · obtain ⟨ad, rfl, hc⟩ := hA hm
      obtain ⟨v', w1, hrun, h2, h3, h4⟩ := run_append_own_at (P := P) wx B T o.type e i0 z size bytes ht hi hz0 hz1 hz2 hzs hsz v k _ hown ad m c news hl hc
        h1 (by unfold maxLen; omega) (by have := Nat.mul_le_mul (show k + m ≤ 1000000 by omega) hby; omega) hB
      exact ⟨v', w1, hrun, h2, h3, h4.2⟩
  obtain ⟨v', w1, hrun, h2, h4, h5⟩ := key
  unfold Oper.wp execOp
  simp only [ho, resolve, invoke, builtin, Sem.run_bind, Sem.run_pure, Result.andThen_ok, List.map_toArray, List.map_cons, List.map_nil, hs, hx, hrun]
  exact h v' w1 h2 h4 h5
end
/-- a call has returned these stitches, made by itself -/
def StsR (l : List St) (w : World) (e : Ending) (w' : World) : Prop := ∃ (A : Option Addr) (n c : Nat), e = .returned (.slice A n c) ∧ Ext w w' ∧ Vec shSt w' A n l ∧ (0 < n → ∀ b off, A = some ⟨b, off, none⟩ → w.heap.size ≤ b)
/-- a list that lies elsewhere than in a block -/
def VecX (w : World) (X : Option Nat) (A : Option Addr) (n : Nat) (l : List St) : Prop := Vec shSt w A n l ∧ (0 < n → ∀ b off, A = some ⟨b, off, none⟩ → some b ≠ X)
theorem VecX.step {w w' : World} {X X' : Option Nat} {A : Option Addr} {n : Nat} {l : List St} (h : VecX w X A n l) (hb : w.grownBy w' X) (hx : X' = X ∨ X' = some w.heap.size) : VecX w' X' A n l := by
  refine ⟨⟨h.1.1, fun hn => ?_⟩, fun hn b off e => ?_⟩
  · obtain ⟨b, off, e, hlt, hc⟩ := h.1.2 hn
    exact ⟨b, off, e, Nat.lt_of_lt_of_le hlt (But.size hb), fun k x hx i u hu => (But.cell (p := ⟨b, off + (k * shSt.size + i), none⟩) hb hlt (h.2 hn b off e)).trans (hc k x hx i u hu)⟩
  · obtain ⟨b', off', e', hlt, _⟩ := h.1.2 hn
    rw [e] at e'
    cases e'
    rcases hx with hx | hx
    · rw [hx]; exact h.2 hn b off e
    · rw [hx]; intro e2; cases e2; omega
theorem VecX.ext {w w' : World} {X : Option Nat} {A : Option Addr} {n : Nat} {l : List St} (h : VecX w X A n l) (hb : Ext w w') : VecX w' X A n l := ⟨h.1.ext hb, h.2⟩
theorem OwnV.blk {α : Type} {S : Shp α} {w : World} {B : Nat} {e : TypeId} {v : Value} {k : Nat} {L : List α} (h : OwnV S w B e v k L) : ∀ b, v.ownBlock = some b → B ≤ b ∧ b < w.heap.size := own_blk h
theorem own_vecB {α : Type} {S : Shp α} {w : World} {B k : Nat} {e : TypeId} {v : Value} {L : List α} (h : OwnV S w B e v k L) : ∃ A c, v = .slice A k c ∧ Vec S w A k L ∧ (0 < k → ∀ b off, A = some ⟨b, off, none⟩ → B ≤ b) := by
  obtain ⟨A, c, rfl, hv⟩ := own_vec h
  refine ⟨A, c, rfl, hv, fun hk b off e => ?_⟩
  subst e
  exact (OwnV.blk h b (by simp [Value.ownBlock])).1
section
variable {α : Type} {S : Shp α} {P : Program} {ops : Array Oper} {rest : List Oper} {o : Oper} {a : Act} {Q : Exit → Act → World → Prop} {w wx : World}
/-- a list appended to what the call has put together; where it lies then -/
theorem wpList_append_vecsB (T e : TypeId) (z : Value) (bytes : Nat) {s x : Operand} {v : Value} {k m c : Nat} {A : Option Addr} {L xs : List α}
    (hgd : o.guard = none) (ho : o.op = .call { callee := .builtin .append, args := #[s, x], argTypes := #[T, T] })
    (ht : P.underlying T = some (.slice e)) (hinfo : (P.info? e).map (fun i => (i.zero, i.size, i.bytes)) = some (some z, S.size, bytes)) (hzs : z.cells.size = S.size) (hby : bytes ≤ 1000)
    (hs : a.eval s = v) (hx : a.eval x = .slice A m c) (hown : OwnV S wx w.heap.size e v k L) (hext : Ext w wx) (hxs : Vec S wx A m xs) (hk : k + m ≤ 1000000)
    (h : ∀ v' w1, OwnV S w1 w.heap.size e v' (k + m) (L ++ xs) → Hid (Ext w w1) → Hid (wx.grownBy w1 v.ownBlock ∧ (v'.ownBlock = v.ownBlock ∨ v'.ownBlock = some wx.heap.size)) → wpList P ops Q rest (a.put o.dst v') w1) : wpList P ops Q (o :: rest) a wx :=
  wpList_plain hgd fun _ hK => wp_append_cells (news := xs.flatMap S.cells) T e z S.size bytes ho ht hinfo hzs S.pos hby hs hx hown hext (by rw [flat_len, hxs.1])
    (fun hm => by
      obtain ⟨b, off, hA, _, _⟩ := hxs.2 hm
      subst hA
      exact ⟨_, rfl, hxs.cells_at⟩) (fun u hu => by obtain ⟨y, _, hy⟩ := List.mem_flatMap.1 hu; exact S.one y u hy) hk
    fun v' w' h2 h3 h4 h5 => hK _ _ (h v' w' (by unfold OwnV; rw [List.flatMap_append]; exact h2) h3 ⟨h4, h5⟩)
end
theorem But.grown {E X : Option Nat} {a b c : World} (h : But E a b) (k : b.grownBy c X) (hx : ∀ x, X = some x → a.heap.size ≤ x) : But E a c :=
  ⟨k.os.trans h.os, k.tape.trans h.tape, k.output.trans h.output, Nat.le_trans h.size k.size, fun i hi hne => (k.block i (Nat.lt_of_lt_of_le hi h.size) (fun e => by have := hx i e.symm; omega)).trans (h.block i hi hne)⟩
end Go.Proofs.Ytfhecgipfhhchaa
