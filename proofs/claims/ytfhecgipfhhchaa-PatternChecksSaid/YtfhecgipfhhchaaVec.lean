/- Slices whose elements are some cells each, for the walks of this claim. -/
import Derived.Test.YtfhecgipfhhchaaInts
import Derived.Deep.Slices
namespace Go.Proofs.Ytfhecgipfhhchaa
set_option maxRecDepth 100000
open Go.RowKit Go.ChangeShapes Go.WideShapes

/-- how an element lies in memory -/
structure Shp (α : Type) where
  size : Nat
  cells : α → List Value
  pos : 0 < size
  len : ∀ x, (cells x).length = size
  one : ∀ x u, u ∈ cells x → u.oneCell' = true

section
variable {α : Type} {S : Shp α}
theorem flat_len (xs : List α) : (xs.flatMap S.cells).length = xs.length * S.size := by
  induction xs with
  | nil => simp
  | cons x xs ih => rw [List.flatMap_cons, List.length_append, ih, S.len, List.length_cons, Nat.add_mul, Nat.one_mul, Nat.add_comm]
theorem flat_get : ∀ (xs : List α) (k i : Nat), i < S.size → (xs.flatMap S.cells)[k * S.size + i]? = xs[k]?.bind (fun x => (S.cells x)[i]?) := by
  intro xs
  induction xs with
  | nil => intro k i _; simp
  | cons x xs ih =>
    intro k i hi
    rw [List.flatMap_cons]
    cases k with
    | zero => rw [Nat.zero_mul, Nat.zero_add, List.getElem?_append_left (by rw [S.len]; exact hi)]; rfl
    | succ k =>
      have e : (k + 1) * S.size + i = S.size + (k * S.size + i) := by rw [Nat.add_mul, Nat.one_mul]; omega
      rw [List.getElem?_append_right (by rw [S.len, e]; omega), S.len, e, Nat.add_sub_cancel_left, ih k i hi]; rfl

/-- the slice with this address and length reads as this list; its cells lie in memory that is there -/
def Vec (S : Shp α) (w : World) (A : Option Addr) (n : Nat) (xs : List α) : Prop :=
  xs.length = n ∧ (0 < n → ∃ b off, A = some ⟨b, off, none⟩ ∧ b < w.heap.size ∧ ∀ k x, xs[k]? = some x → ∀ i u, (S.cells x)[i]? = some u → w.cell? ⟨b, off + (k * S.size + i), none⟩ = some u)
variable {w w' : World} {A : Option Addr} {n : Nat} {xs : List α}
theorem Vec.len (h : Vec S w A n xs) : xs.length = n := h.1
theorem Vec.none_ (S : Shp α) (w : World) (A : Option Addr) : Vec S w A 0 [] := ⟨rfl, fun h => absurd h (by omega)⟩
theorem Vec.keep (h : Vec S w A n xs) (hz : w.heap.size ≤ w'.heap.size) (hk : ∀ b off, A = some ⟨b, off, none⟩ → ∀ o, w'.cell? ⟨b, o, none⟩ = w.cell? ⟨b, o, none⟩) : Vec S w' A n xs :=
  ⟨h.1, fun hn => by
    obtain ⟨b, off, e, hb, hc⟩ := h.2 hn
    exact ⟨b, off, e, by omega, fun k x hx i u hu => (hk b off e _).trans (hc k x hx i u hu)⟩⟩
theorem Vec.ext (h : Vec S w A n xs) (hb : Ext w w') : Vec S w' A n xs :=
  ⟨h.1, fun hn => by
    obtain ⟨b, off, e, hlt, hc⟩ := h.2 hn
    exact ⟨b, off, e, Nat.lt_of_lt_of_le hlt (Below.size hb), fun k x hx i u hu => (Below.cell (p := ⟨b, off + (k * S.size + i), none⟩) hb hlt).trans (hc k x hx i u hu)⟩⟩
theorem Vec.but {g : Nat} (h : Vec S w A n xs) (hb : But (some g) w w') (hne : ∀ off, 0 < n → A ≠ some ⟨g, off, none⟩) : Vec S w' A n xs :=
  ⟨h.1, fun hn => by
    obtain ⟨b, off, e, hlt, hc⟩ := h.2 hn
    have hg : some b ≠ some g := by rintro e2; cases e2; exact hne off hn e
    exact ⟨b, off, e, Nat.lt_of_lt_of_le hlt hb.size, fun k x hx i u hu => (hb.cell (p := ⟨b, off + (k * S.size + i), none⟩) hlt hg).trans (hc k x hx i u hu)⟩⟩
theorem spot_none {a : Addr} {u : Value} (h : w.cell? a = some u) : a.spot = none := by
  obtain ⟨b, o, s⟩ := a
  cases s with
  | none => rfl
  | some s =>
    simp only [World.cell?] at h
    split at h <;> simp at h
theorem add_plain (b off j : Nat) : ((⟨b, off, none⟩ : Addr).add j) = ⟨b, off + j, none⟩ := by
  unfold Addr.add; split <;> simp_all
theorem Vec.of_add (hl : xs.length = n) (h : 0 < n → ∃ ad, A = some ad ∧ ad.block < w.heap.size ∧ ∀ k x, xs[k]? = some x → ∀ i u, (S.cells x)[i]? = some u → w.cell? (ad.add (k * S.size + i)) = some u) : Vec S w A n xs := by
  refine ⟨hl, fun hn => ?_⟩
  obtain ⟨ad, e, hb, hc⟩ := h hn
  obtain ⟨x0, h0⟩ : ∃ x, xs[0]? = some x := ⟨xs[0]'(by omega), List.getElem?_eq_getElem (by omega)⟩
  obtain ⟨u0, hu0⟩ : ∃ u, (S.cells x0)[0]? = some u := ⟨(S.cells x0)[0]'(by rw [S.len]; exact S.pos), List.getElem?_eq_getElem (by rw [S.len]; exact S.pos)⟩
  have h1 := hc 0 x0 h0 0 u0 hu0
  rw [show ad.add (0 * S.size + 0) = ad by simp [Addr.add]] at h1
  have hs := spot_none h1
  obtain ⟨b, off, spot⟩ := ad
  obtain rfl : spot = none := hs
  exact ⟨b, off, e, hb, fun k x hx i u hu => by rw [← add_plain]; exact hc k x hx i u hu⟩
/-- what the call itself has put together -/
def OwnV (S : Shp α) (w : World) (B : Nat) (e : TypeId) (v : Value) (k : Nat) (L : List α) : Prop := w.ownsRow B e S.size v k (L.flatMap S.cells)
theorem OwnV.nil (S : Shp α) (w : World) (B : Nat) (e : TypeId) : OwnV S w B e (.slice none 0 0) 0 [] := World.ownsRow_nil _ _ _ _
theorem OwnV.alloc {B : Nat} {e : TypeId} {v : Value} {k : Nat} {L : List α} (h : OwnV S w B e v k L) (o : Obj) : OwnV S (w.alloc o) B e v k L := World.ownsRow.alloc h o
theorem OwnV.drew {B : Nat} {e : TypeId} {v : Value} {k : Nat} {L : List α} (h : OwnV S w B e v k L) : OwnV S w.drew B e v k L := World.ownsRow.drew h
theorem OwnV.drewN {B : Nat} {e : TypeId} {v : Value} {k : Nat} {L : List α} (h : OwnV S w B e v k L) (n : Nat) : OwnV S (w.drewN n) B e v k L := h
theorem OwnV.ext {B : Nat} {e : TypeId} {v : Value} {k : Nat} {L : List α} (h : OwnV S w B e v k L) (hb : Ext w w') : OwnV S w' B e v k L :=
  World.ownsRow.kept h (But.of_ext hb none) (by cases v.ownBlock <;> simp)
theorem OwnV.len {B : Nat} {e : TypeId} {v : Value} {k : Nat} {L : List α} (h : OwnV S w B e v k L) : L.length = k := by
  have := h.1
  rw [flat_len] at this
  exact Nat.eq_of_mul_eq_mul_right S.pos this
theorem Vec.of_own {B : Nat} {e : TypeId} {k c : Nat} {A : Option Addr} {L : List α} (h : OwnV S w B e (.slice A k c) k L) : Vec S w A k L := by
  refine ⟨h.len, fun hn => ?_⟩
  obtain ⟨g, cap, hv, _, hlt⟩ := World.ownsRow.form h hn
  simp only [Value.slice.injEq, true_and] at hv
  obtain ⟨hA, hc⟩ := hv
  subst hA
  refine ⟨g, 0, rfl, hlt, fun j x hx i u hu => ?_⟩
  have hi : i < S.size := by rw [← S.len x]; exact (List.getElem?_eq_some_iff.1 hu).1
  have hj : j < k := by rw [← h.len]; exact (List.getElem?_eq_some_iff.1 hx).1
  have hb : j * S.size + i < k * S.size := by
    have := Nat.mul_le_mul_right S.size (show j + 1 ≤ k by omega)
    rw [Nat.add_mul, Nat.one_mul] at this
    omega
  rw [Nat.zero_add, World.ownsRow.cellAt h _ hb, flat_get _ _ _ hi, hx]
  exact hu
theorem own_vec {B k : Nat} {e : TypeId} {v : Value} {L : List α} (h : OwnV S w B e v k L) : ∃ A c, v = .slice A k c ∧ Vec S w A k L := by
  rcases h.2 with ⟨h1, h2⟩ | ⟨g, cap, cur, h1, _⟩
  · subst h2
    subst h1
    exact ⟨none, 0, rfl, Vec.of_own h⟩
  · subst h1
    exact ⟨_, _, rfl, Vec.of_own h⟩
section
variable {P : Program} {ops : Array Oper} {rest : List Oper} {o : Oper} {a : Act} {K : Act → World → Prop} {Q : Exit → Act → World → Prop} {E : Prop} {wx : World}
/-- one element appended: its cells lie in block g -/
theorem wp_append_vec (T e : TypeId) (z : Value) (bytes : Nat) {s x : Operand} {v : Value} {k : Nat} (g : Nat) {L : List α} (X : α)
    (ho : o.op = .call { callee := .builtin .append, args := #[s, x], argTypes := #[T, T] })
    (ht : P.underlying T = some (.slice e)) (hinfo : (P.info? e).map (fun i => (i.zero, i.size, i.bytes)) = some (some z, S.size, bytes)) (hzs : z.cells.size = S.size) (hby : bytes ≤ 1000)
    (hs : a.eval s = v) (hx : a.eval x = .slice (some ⟨g, 0, none⟩) 1 1) (hown : OwnV S wx w.heap.size e v k L) (hext : Ext w wx)
    (hc : ∀ j u, (S.cells X)[j]? = some u → wx.cell? ⟨g, j, none⟩ = some u) (hk : k ≤ 1000000)
    (h : ∀ v' w1, OwnV S w1 w.heap.size e v' (k + 1) (L ++ [X]) → Hid (Ext w w1) → wx.grownBy w1 v.ownBlock → K (a.put o.dst v') w1) : o.wp P a wx K Q := by
  refine wp_append_elem T e z S.size bytes g (S.cells X) ho ht hinfo hzs S.pos hby hs hx hown hext (S.len X) hc (S.one X) hk ?_
  intro v' w1 h1 h2 h3
  exact h v' w1 (by unfold OwnV; rw [List.flatMap_append]; simpa using h1) h2 h3
theorem wpList_append_vec (T e : TypeId) (z : Value) (bytes : Nat) {s x : Operand} {v : Value} {k : Nat} (g : Nat) {L : List α} (X : α)
    (hgd : o.guard = none) (ho : o.op = .call { callee := .builtin .append, args := #[s, x], argTypes := #[T, T] })
    (ht : P.underlying T = some (.slice e)) (hinfo : (P.info? e).map (fun i => (i.zero, i.size, i.bytes)) = some (some z, S.size, bytes)) (hzs : z.cells.size = S.size) (hby : bytes ≤ 1000)
    (hs : a.eval s = v) (hx : a.eval x = .slice (some ⟨g, 0, none⟩) 1 1) (hown : OwnV S wx w.heap.size e v k L) (hext : Ext w wx)
    (hc : ∀ j u, (S.cells X)[j]? = some u → wx.cell? ⟨g, j, none⟩ = some u) (hk : k ≤ 1000000)
    (h : ∀ v' w1, OwnV S w1 w.heap.size e v' (k + 1) (L ++ [X]) → Hid (Ext w w1) → wpList P ops Q rest (a.put o.dst v') w1) : wpList P ops Q (o :: rest) a wx :=
  wpList_plain hgd fun _ hK => wp_append_vec T e z bytes g X ho ht hinfo hzs hby hs hx hown hext hc hk fun v' w' h2 h3 _ => hK _ _ (h v' w' h2 h3)
theorem step_append_vec (T e : TypeId) (z : Value) (bytes : Nat) {s x : Operand} {v : Value} {k : Nat} (g : Nat) {L : List α} (X : α)
    (hgd : o.guard = none) (ho : o.op = .call { callee := .builtin .append, args := #[s, x], argTypes := #[T, T] })
    (ht : P.underlying T = some (.slice e)) (hinfo : (P.info? e).map (fun i => (i.zero, i.size, i.bytes)) = some (some z, S.size, bytes)) (hzs : z.cells.size = S.size) (hby : bytes ≤ 1000)
    (hs : a.eval s = v) (hx : a.eval x = .slice (some ⟨g, 0, none⟩) 1 1) (hown : OwnV S wx w.heap.size e v k L) (hext : Ext w wx)
    (hc : ∀ j u, (S.cells X)[j]? = some u → wx.cell? ⟨g, j, none⟩ = some u) (hk : k ≤ 1000000)
    (h : ∀ v' w1, OwnV S w1 w.heap.size e v' (k + 1) (L ++ [X]) → Hid (Ext w w1) → wx.grownBy w1 v.ownBlock → K (a.put o.dst v') w1) :
    if Region.wanted o (yielded ops a.tmps) = true then Oper.wp P o a wx K Q else E := by
  have hw : Region.wanted o (yielded ops a.tmps) = true := by simp [Region.wanted, hgd]
  rw [if_pos hw]
  exact wp_append_vec T e z bytes g X ho ht hinfo hzs hby hs hx hown hext hc hk h
theorem Vec.cells_at {ad : Addr} (hxs : Vec S wx (some ad) n xs) : ∀ j u, (xs.flatMap S.cells)[j]? = some u → wx.cell? (ad.add j) = some u := by
  intro j u hu
  have hj := (List.getElem?_eq_some_iff.1 hu).1
  rw [flat_len, hxs.1] at hj
  have hn : 0 < n := Nat.pos_of_ne_zero (by rintro rfl; rw [Nat.zero_mul] at hj; exact absurd hj (Nat.not_lt_zero _))
  obtain ⟨b, off, hA, _, hc⟩ := hxs.2 hn
  cases hA
  have e : j = j / S.size * S.size + j % S.size := by rw [Nat.mul_comm]; exact (Nat.div_add_mod j S.size).symm
  have hi := Nat.mod_lt j S.pos
  rw [e, flat_get _ _ _ hi] at hu
  obtain ⟨x, hx, hu⟩ := Option.bind_eq_some_iff.1 hu
  rw [add_plain, e]
  exact hc _ x hx _ u hu
/-- a list appended to what the call has put together -/
theorem wp_append_vecs (T e : TypeId) (z : Value) (bytes : Nat) {s x : Operand} {v : Value} {k m c : Nat} {L : List α}
    (ho : o.op = .call { callee := .builtin .append, args := #[s, x], argTypes := #[T, T] })
    (ht : P.underlying T = some (.slice e)) (hinfo : (P.info? e).map (fun i => (i.zero, i.size, i.bytes)) = some (some z, S.size, bytes)) (hzs : z.cells.size = S.size) (hby : bytes ≤ 1000)
    (hs : a.eval s = v) (hx : a.eval x = .slice A m c) (hown : OwnV S wx w.heap.size e v k L) (hext : Ext w wx) (hxs : Vec S wx A m xs) (hk : k + m ≤ 1000000)
    (h : ∀ v' w1, OwnV S w1 w.heap.size e v' (k + m) (L ++ xs) → Hid (Ext w w1) → wx.grownBy w1 v.ownBlock → K (a.put o.dst v') w1) : o.wp P a wx K Q := by
  obtain ⟨i0, hi, hz0, hz1, hz2⟩ := info_parts hinfo
  have key : ∃ v' w1, (Builtin.append_ #[T, T] o.type #[v, .slice A m c]).run P wx = .ok v' w1 ∧ OwnV S w1 w.heap.size e v' (k + m) (L ++ xs) ∧ Ext w w1 ∧ wx.grownBy w1 v.ownBlock := by
    rcases A with _ | ad
    · have hn : m = 0 := by
        rcases Nat.eq_zero_or_pos m with h0 | h0
        · exact h0
        · obtain ⟨b, off, h, _⟩ := hxs.2 h0
          cases h
      subst hn
      have hn : xs = [] := List.eq_nil_of_length_eq_zero hxs.1
      subst hn
      exact ⟨v, wx, run_append_of_nil wx _ T o.type e i0 S.size ht hi v k _ hown c, by simpa using hown, hext, World.grownBy.refl wx _⟩
    · obtain ⟨v', w1, hrun, h2, h3, _⟩ := run_append_own_at (P := P) wx w.heap.size T o.type e i0 z S.size bytes ht hi hz0 hz1 hz2 hzs S.pos v k _ hown ad m c (xs.flatMap S.cells) (by rw [flat_len, hxs.1]) hxs.cells_at
        (fun u hu => by obtain ⟨y, _, hy⟩ := List.mem_flatMap.1 hu; exact S.one y u hy) (by unfold maxLen; omega) (by have := Nat.mul_le_mul (show k + m ≤ 1000000 by omega) hby; omega) (Below.size hext)
      exact ⟨v', w1, hrun, by unfold OwnV; rw [List.flatMap_append]; exact h2, Below.grown hext h3 (Below.size hext) (own_base hown), h3⟩
  obtain ⟨v', w1, hrun, h2, h3, h4⟩ := key
  unfold Oper.wp execOp
  simp only [ho, resolve, invoke, builtin, Sem.run_bind, Sem.run_pure, Result.andThen_ok, List.map_toArray, List.map_cons, List.map_nil, hs, hx, hrun]
  exact h v' w1 h2 h3 h4
theorem wpList_append_vecs (T e : TypeId) (z : Value) (bytes : Nat) {s x : Operand} {v : Value} {k m c : Nat} {L : List α}
    (hgd : o.guard = none) (ho : o.op = .call { callee := .builtin .append, args := #[s, x], argTypes := #[T, T] })
    (ht : P.underlying T = some (.slice e)) (hinfo : (P.info? e).map (fun i => (i.zero, i.size, i.bytes)) = some (some z, S.size, bytes)) (hzs : z.cells.size = S.size) (hby : bytes ≤ 1000)
    (hs : a.eval s = v) (hx : a.eval x = .slice A m c) (hown : OwnV S wx w.heap.size e v k L) (hext : Ext w wx) (hxs : Vec S wx A m xs) (hk : k + m ≤ 1000000)
    (h : ∀ v' w1, OwnV S w1 w.heap.size e v' (k + m) (L ++ xs) → Hid (Ext w w1) → wpList P ops Q rest (a.put o.dst v') w1) : wpList P ops Q (o :: rest) a wx :=
  wpList_plain hgd fun _ hK => wp_append_vecs T e z bytes ho ht hinfo hzs hby hs hx hown hext hxs hk fun v' w' h2 h3 _ => hK _ _ (h v' w' h2 h3)
end
theorem Vec.lit (w : World) (L : List α) (t : TypeId) : Vec S (w.alloc (.cells (L.flatMap S.cells).toArray t)) (some ⟨w.heap.size, 0, none⟩) L.length L := by
  refine ⟨rfl, fun hn => ⟨w.heap.size, 0, rfl, by simp, fun k x hx i u hu => ?_⟩⟩
  have hi : i < S.size := by rw [← S.len x]; exact (List.getElem?_eq_some_iff.1 hu).1
  have h : (w.alloc (.cells (L.flatMap S.cells).toArray t)).heap[w.heap.size]? = some (.cells (L.flatMap S.cells).toArray t) := heap_alloc_new w _
  rw [Nat.zero_add, cell_of_row _ w.heap.size _ _ t (0, 0) h, List.getElem?_toArray, flat_get _ _ _ hi, hx]
  exact hu
theorem Vec.lit2 {L : List α} {t : TypeId} {g n : Nat} {cs : Array Value} (hg : g = w.heap.size) (hc : cs = (L.flatMap S.cells).toArray) (hn : n = L.length) : Vec S (w.alloc (.cells cs t)) (some ⟨g, 0, none⟩) n L := by
  subst hg; subst hc; subst hn; exact Vec.lit w L t
end

section
variable {α : Type} {S : Shp α} {H : Type} {enc : TypeId × Value → H} {P : Program} {w : World} {base : Nat} {spare : Nat → Bool} {held : Bool}
/-- how a slice that comes in is opened -/
theorem open_vecQ {Q : α → Prop} {r : Reach} {b0 : Nat} {t e : TypeId} {v : Value} {d : DataW H} {p : List MemPlace} (ht : P.underlying t = some (.slice e)) (hC : P.cellsOf e = S.size)
    (hR : ∀ (fuel : Nat) (cs : List Value) (y : DataW H × List MemPlace), cs.length = S.size → DataW.trod enc P w base spare held fuel e cs = some y → ∃ x, cs = S.cells x ∧ Q x)
    (hv : Value.okWide P w r b0 t v) (h : DataW.Trod enc P w base spare held t v d p) : ∃ (A : Option Addr) (n c : Nat) (l : List α), v = .slice A n c ∧ Vec S w A n l ∧ n ≤ maxLen ∧ ∀ x ∈ l, Q x := by
  obtain ⟨a0, len, cap, rfl⟩ := okWide_slice ht hv
  obtain ⟨fuel, hf⟩ := h
  rcases Go.Deep.open_slice ht hf with ⟨hcs, _⟩ | ⟨a, len', cap', m, n, D, Pl, hcs, _, hl, hm, hmm, _, hi⟩
  · simp only [Value.cells, List.cons.injEq, Value.slice.injEq, and_true] at hcs
    obtain ⟨rfl, rfl, rfl⟩ := hcs
    exact ⟨none, 0, 0, [], rfl, Vec.none_ _ _ _, by unfold maxLen; omega, fun x hx => by cases hx⟩
  · simp only [Value.cells, List.cons.injEq, Value.slice.injEq, and_true] at hcs
    obtain ⟨rfl, rfl, rfl⟩ := hcs
    have hmn : len ≤ m := by rw [hmm]; split <;> omega
    have key : ∀ k, k ≤ m → ∃ l : List α, l.length = k ∧ (∀ x ∈ l, Q x) ∧ ∀ i x, l[i]? = some x → ∀ j u, (S.cells x)[j]? = some u → w.cell? (a.add (i * S.size + j)) = some u := by
      intro k
      induction k with
      | zero => intro _; exact ⟨[], rfl, fun x hx => (by cases hx), fun i x hx => by simp at hx⟩
      | succ k ih =>
        intro hk
        obtain ⟨l, hl1, hlq, hl2⟩ := ih (by omega)
        obtain ⟨cs', hc1, hc2⟩ := hi k (by omega)
        rw [hC] at hc1
        obtain ⟨_, hc3, hc4⟩ := World.cells?_some hc1
        obtain ⟨x, rfl, hqx⟩ := hR n cs' _ hc3 hc2
        refine ⟨l ++ [x], by simp [hl1], fun z hz => (by
          rcases List.mem_append.1 hz with h | h
          · exact hlq z h
          · simp at h; subst h; exact hqx), fun i y hy j u hu => ?_⟩
        rcases Nat.lt_or_ge i k with hik | hik
        · rw [List.getElem?_append_left (by omega)] at hy
          exact hl2 i y hy j u hu
        · rw [List.getElem?_append_right (by omega), hl1] at hy
          obtain ⟨h0, h1⟩ := List.getElem?_eq_some_iff.1 hy
          have hik : i = k := by simp at h0; omega
          subst hik
          simp at h1
          subst h1
          have hj : j < S.size := by rw [← S.len x]; exact (List.getElem?_eq_some_iff.1 hu).1
          rw [← Go.Deep.add_add, hc4 j hj]
          exact hu
    obtain ⟨l, hl1, hlq, hl2⟩ := key len hmn
    refine ⟨some a, len, cap, l, rfl, Vec.of_add hl1 fun hn => ⟨a, rfl, ?_, hl2⟩, by omega, hlq⟩
    obtain ⟨x0, h0⟩ : ∃ x, l[0]? = some x := ⟨l[0]'(by omega), List.getElem?_eq_getElem (by omega)⟩
    obtain ⟨u0, hu0⟩ : ∃ u, (S.cells x0)[0]? = some u := ⟨(S.cells x0)[0]'(by rw [S.len]; exact S.pos), List.getElem?_eq_getElem (by rw [S.len]; exact S.pos)⟩
    have h1 := World.block_lt_of_cell? w _ (hl2 0 x0 h0 0 u0 hu0)
    simpa [Addr.add] using h1
theorem open_vec {r : Reach} {b0 : Nat} {t e : TypeId} {v : Value} {d : DataW H} {p : List MemPlace} (ht : P.underlying t = some (.slice e)) (hC : P.cellsOf e = S.size)
    (hR : ∀ (fuel : Nat) (cs : List Value) (y : DataW H × List MemPlace), cs.length = S.size → DataW.trod enc P w base spare held fuel e cs = some y → ∃ x, cs = S.cells x)
    (hv : Value.okWide P w r b0 t v) (h : DataW.Trod enc P w base spare held t v d p) : ∃ (A : Option Addr) (n c : Nat) (l : List α), v = .slice A n c ∧ Vec S w A n l ∧ n ≤ maxLen := by
  obtain ⟨A, n, c, l, h1, h2, h3, _⟩ := open_vecQ (Q := fun _ => True) ht hC (fun f cs y hl hy => by obtain ⟨x, hx⟩ := hR f cs y hl hy; exact ⟨x, hx, trivial⟩) hv h
  exact ⟨A, n, c, l, h1, h2, h3⟩
end
end Go.Proofs.Ytfhecgipfhhchaa
