/- Rows of charts in memory. -/
import Derived.Test.YtfhecgipfhhchaaApp
import Derived.Test.YtfhecgipfhhchaaChartP
namespace Go.Proofs.Ytfhecgipfhhchaa
set_option maxRecDepth 100000
open Go.RowKit Go.ChangeShapes Go.WideShapes Go.Joins
/-- a row as its cells tell it: its side, and where its cells lie -/
structure Raw where
  b : Bool
  A : Option Addr
  n : Nat
  c : Nat
def raw0 : Raw := ⟨false, none, 0, 0⟩
def shRaw : Shp Raw where
  size := 2
  cells x := [.bool x.b, .slice x.A x.n x.c]
  pos := by omega
  len _ := rfl
  one x u h := by
    simp at h
    rcases h with h | h <;> subst h <;> rfl
theorem info_row : (Try.prog.info? 65).map (fun i => (i.zero, i.size, i.bytes)) = some (some (.agg #[.bool false, .slice none 0 0]), 2, 32) := by kernel_rfl
/-- a row reads as this one; its cells lie in blocks that meet a condition -/
def RoAt (w : World) (K : Nat → Prop) (x : Raw) (r : Ro) : Prop :=
  x.b = r.back ∧ Vec shSt w x.A x.n r.cells ∧ x.n ≤ maxLen ∧ Bytes r.cells ∧ (0 < x.n → ∀ b off, x.A = some ⟨b, off, none⟩ → K b)
/-- rows, one for one -/
def RosAt (w : World) (K : Nat → Prop) (xs : List Raw) (l : List Ro) : Prop := xs.length = l.length ∧ ∀ k, k < l.length → RoAt w K (xs.getD k raw0) (l.getD k ro0)
/-- the slice with this address and length reads as these rows -/
def Rws (w : World) (K : Nat → Prop) (A : Option Addr) (n : Nat) (l : List Ro) : Prop :=
  n ≤ maxLen ∧ ∃ xs : List Raw, Vec shRaw w A n xs ∧ (0 < n → ∀ b off, A = some ⟨b, off, none⟩ → K b) ∧ RosAt w K xs l
theorem Rws.len {w : World} {K : Nat → Prop} {A : Option Addr} {n : Nat} {l : List Ro} (h : Rws w K A n l) : l.length = n := by
  obtain ⟨_, xs, h1, _, h2⟩ := h
  rw [← h2.1]
  exact h1.1
theorem Vec.keepK {α : Type} {S : Shp α} {w w' : World} {K : Nat → Prop} {A : Option Addr} {n : Nat} {l : List α} (h : Vec S w A n l) (hk : 0 < n → ∀ b off, A = some ⟨b, off, none⟩ → K b) (hz : w.heap.size ≤ w'.heap.size)
    (hc : ∀ b, b < w.heap.size → K b → ∀ o, w'.cell? ⟨b, o, none⟩ = w.cell? ⟨b, o, none⟩) : Vec S w' A n l :=
  ⟨h.1, fun hn => by
    obtain ⟨b, off, e, hlt, hx⟩ := h.2 hn
    exact ⟨b, off, e, Nat.lt_of_lt_of_le hlt hz, fun k x hxk i u hu => (hc b hlt (hk hn b off e) _).trans (hx k x hxk i u hu)⟩⟩
theorem RoAt.keep {w w' : World} {K K' : Nat → Prop} {x : Raw} {r : Ro} (h : RoAt w K x r) (hz : w.heap.size ≤ w'.heap.size) (hc : ∀ b, b < w.heap.size → K b → K' b ∧ ∀ o, w'.cell? ⟨b, o, none⟩ = w.cell? ⟨b, o, none⟩) : RoAt w' K' x r := by
  obtain ⟨h1, h2, h3, h4, h5⟩ := h
  refine ⟨h1, h2.keepK h5 hz (fun b hb hk => (hc b hb hk).2), h3, h4, fun hn b off e => ?_⟩
  obtain ⟨b', off', e', hlt, _⟩ := h2.2 hn
  rw [e] at e'
  cases e'
  exact (hc b hlt (h5 hn b off e)).1
theorem RosAt.keep {w w' : World} {K K' : Nat → Prop} {xs : List Raw} {l : List Ro} (h : RosAt w K xs l) (hz : w.heap.size ≤ w'.heap.size) (hc : ∀ b, b < w.heap.size → K b → K' b ∧ ∀ o, w'.cell? ⟨b, o, none⟩ = w.cell? ⟨b, o, none⟩) : RosAt w' K' xs l :=
  ⟨h.1, fun k hk => (h.2 k hk).keep hz hc⟩
theorem Rws.keep {w w' : World} {K K' : Nat → Prop} {A : Option Addr} {n : Nat} {l : List Ro} (h : Rws w K A n l) (hz : w.heap.size ≤ w'.heap.size) (hc : ∀ b, b < w.heap.size → K b → K' b ∧ ∀ o, w'.cell? ⟨b, o, none⟩ = w.cell? ⟨b, o, none⟩) : Rws w' K' A n l := by
  obtain ⟨h0, xs, h1, h2, h3⟩ := h
  refine ⟨h0, xs, h1.keepK h2 hz (fun b hb hk => (hc b hb hk).2), fun hn b off e => ?_, h3.keep hz hc⟩
  obtain ⟨b', off', e', hlt, _⟩ := h1.2 hn
  rw [e] at e'
  cases e'
  exact (hc b hlt (h2 hn b off e)).1
theorem Rws.ext {w w' : World} {K : Nat → Prop} {A : Option Addr} {n : Nat} {l : List Ro} (h : Rws w K A n l) (hb : Ext w w') : Rws w' K A n l :=
  h.keep (Below.size hb) fun b hlt hk => ⟨hk, fun o => Below.cell (p := ⟨b, o, none⟩) hb hlt⟩
theorem Rws.mono {w : World} {K K' : Nat → Prop} {A : Option Addr} {n : Nat} {l : List Ro} (h : Rws w K A n l) (hk : ∀ b, b < w.heap.size → K b → K' b) : Rws w K' A n l :=
  h.keep (Nat.le_refl _) fun b hlt hb => ⟨hk b hlt hb, fun _ => rfl⟩
theorem Rws.any {w : World} {K : Nat → Prop} {A : Option Addr} {n : Nat} {l : List Ro} (h : Rws w K A n l) : Rws w (fun _ => True) A n l := h.mono fun _ _ _ => trivial
theorem Rws.none_ (w : World) (K : Nat → Prop) (A : Option Addr) : Rws w K A 0 [] := ⟨by unfold maxLen; omega, [], Vec.none_ _ _ _, fun h => absurd h (by omega), rfl, fun k hk => by simp at hk⟩
theorem getRaw {l : List Raw} {k : Nat} (h : k < l.length) : l[k]? = some (l.getD k raw0) := by
  rw [List.getD_eq_getElem?_getD, List.getElem?_eq_getElem h]; rfl
/-- one of the rows -/
theorem Rws.at_ {w : World} {K : Nat → Prop} {A : Option Addr} {n : Nat} {l : List Ro} (h : Rws w K A n l) {k : Nat} (hk : k < n) :
    ∃ (b off : Nat) (A' : Option Addr) (n' c' : Nat), A = some ⟨b, off, none⟩ ∧ b < w.heap.size ∧ K b ∧ w.cell? ⟨b, off + k * 2, none⟩ = some (.bool (l.getD k ro0).back) ∧ w.cell? ⟨b, off + k * 2 + 1, none⟩ = some (.slice A' n' c') ∧
      Vec shSt w A' n' (l.getD k ro0).cells ∧ n' ≤ maxLen ∧ Bytes (l.getD k ro0).cells ∧ (0 < n' → ∀ b off, A' = some ⟨b, off, none⟩ → K b) := by
  have hl := h.len
  obtain ⟨h0, xs, h1, h2, h3⟩ := h
  obtain ⟨b, off, e, hlt, hc⟩ := h1.2 (by omega)
  have hx := getRaw (l := xs) (k := k) (by rw [h1.1]; exact hk)
  obtain ⟨g1, g2, g3, g4, g5⟩ := h3.2 k (by omega)
  refine ⟨b, off, (xs.getD k raw0).A, (xs.getD k raw0).n, (xs.getD k raw0).c, e, hlt, h2 (by omega) b off e, ?_, ?_, g2, g3, g4, g5⟩
  · rw [← g1]; exact hc k _ hx 0 _ rfl
  · exact hc k _ hx 1 _ rfl
/-- a part of the rows -/
theorem Rws.part {w : World} {K : Nat → Prop} {A : Option Addr} {n : Nat} {l : List Ro} (h : Rws w K A n l) {i j : Nat} (hij : i ≤ j) (hj : j ≤ n) : ∀ (A' : Option Addr), (i < j → ∃ b off, A = some ⟨b, off, none⟩ ∧ A' = some ⟨b, off + i * 2, none⟩) →
    Rws w K A' (j - i) ((l.drop i).take (j - i)) := by
  intro A' hA
  have hl := h.len
  obtain ⟨h0, xs, h1, h2, h3⟩ := h
  have hxl := h1.1
  refine ⟨by unfold maxLen at *; omega, (xs.drop i).take (j - i), ⟨by rw [List.length_take, List.length_drop]; omega, fun hn => ?_⟩, fun hn b off e => ?_, by rw [List.length_take, List.length_drop, List.length_take, List.length_drop]; omega, fun k hk => ?_⟩
  · obtain ⟨b, off, e1, e2⟩ := hA (by omega)
    obtain ⟨b', off', e3, hlt, hc⟩ := h1.2 (by omega)
    rw [e1] at e3
    cases e3
    refine ⟨b, off + i * 2, e2, hlt, fun k x hx m u hu => ?_⟩
    have hk : k < j - i := by
      have := (List.getElem?_eq_some_iff.1 hx).1
      rw [List.length_take] at this
      omega
    rw [List.getElem?_take, if_pos hk, List.getElem?_drop] at hx
    have := hc (i + k) x hx m u hu
    have e4 : off + i * 2 + (k * shRaw.size + m) = off + ((i + k) * shRaw.size + m) := by
      show off + i * 2 + (k * 2 + m) = off + ((i + k) * 2 + m)
      omega
    rw [e4]
    exact this
  · obtain ⟨b', off', e1, e2⟩ := hA (by omega)
    rw [e] at e2
    cases e2
    exact h2 (by omega) b off' e1
  · rw [List.length_take, List.length_drop] at hk
    have g1 : ((xs.drop i).take (j - i)).getD k raw0 = xs.getD (i + k) raw0 := by
      rw [List.getD_eq_getElem?_getD, List.getElem?_take, if_pos (by omega), List.getElem?_drop, ← List.getD_eq_getElem?_getD]
    have g2 : ((l.drop i).take (j - i)).getD k ro0 = l.getD (i + k) ro0 := by
      rw [List.getD_eq_getElem?_getD, List.getElem?_take, if_pos (by omega), List.getElem?_drop, ← List.getD_eq_getElem?_getD]
    rw [g1, g2]
    exact h3.2 (i + k) (by omega)
theorem But.frozen {E : Option Nat} {w w' : World} (h : But E w w') {p : Addr} (hp : p.block < w.heap.size) (hne : some p.block ≠ E) : w'.frozen? p = w.frozen? p := by
  exact World.frozen?_of_block (h.block p.block hp hne)
theorem Ext.frozenAt {w w' : World} (h : Ext w w') (p : Addr) (hp : p.block < w.heap.size) : w'.frozen? p = w.frozen? p :=
  But.frozen (But.of_ext h none) hp (by simp)
/-- a block of the call's own, that is not the row v, and that may be written -/
abbrev Kr (w : World) (B : Nat) (v : Value) (b : Nat) : Prop := B ≤ b ∧ some b ≠ v.ownBlock ∧ ∀ o, w.frozen? ⟨b, o, none⟩ = false
/-- the call has put together these rows -/
def OwnR (w : World) (B : Nat) (e : TypeId) (v : Value) (k : Nat) (l : List Ro) : Prop := ∃ xs : List Raw, OwnV shRaw w B e v k xs ∧ RosAt w (Kr w B v) xs l
theorem OwnR.nil (w : World) (B : Nat) (e : TypeId) : OwnR w B e (.slice none 0 0) 0 [] := ⟨[], OwnV.nil _ _ _ _, rfl, fun k hk => by simp at hk⟩
theorem OwnR.ext {w w' : World} {B : Nat} {e : TypeId} {v : Value} {k : Nat} {l : List Ro} (h : OwnR w B e v k l) (hb : Ext w w') : OwnR w' B e v k l := by
  obtain ⟨xs, h1, h2⟩ := h
  exact ⟨xs, h1.ext hb, h2.keep (Below.size hb) fun b hlt hk => ⟨⟨hk.1, hk.2.1, fun o => (Ext.frozenAt hb ⟨b, o, none⟩ hlt).trans (hk.2.2 o)⟩, fun o => Below.cell (p := ⟨b, o, none⟩) hb hlt⟩⟩
theorem OwnR.len {w : World} {B : Nat} {e : TypeId} {v : Value} {k : Nat} {l : List Ro} (h : OwnR w B e v k l) : l.length = k := by
  obtain ⟨xs, h1, h2⟩ := h
  rw [← h2.1]; exact h1.len
theorem OwnR.blk {w : World} {B : Nat} {e : TypeId} {v : Value} {k : Nat} {l : List Ro} (h : OwnR w B e v k l) : ∀ b, v.ownBlock = some b → B ≤ b ∧ b < w.heap.size := by
  obtain ⟨xs, h1, _⟩ := h
  exact h1.blk
theorem own_rws {w : World} {B k : Nat} {e : TypeId} {v : Value} {l : List Ro} (h : OwnR w B e v k l) (hk : k ≤ 1000000) : ∃ A c, v = .slice A k c ∧ Rws w (fun b => B ≤ b) A k l := by
  obtain ⟨xs, h1, h2⟩ := h
  obtain ⟨A, c, rfl, hv, hb⟩ := own_vecB h1
  exact ⟨A, c, rfl, by unfold maxLen; omega, xs, hv, hb, h2.keep (Nat.le_refl _) fun b _ hx => ⟨hx.1, fun _ => rfl⟩⟩
theorem RosAt.snoc {w : World} {K : Nat → Prop} {xs : List Raw} {l : List Ro} {x : Raw} {r : Ro} (h : RosAt w K xs l) (hx : RoAt w K x r) : RosAt w K (xs ++ [x]) (l ++ [r]) := by
  refine ⟨by simp [h.1], fun k hk => ?_⟩
  rcases Nat.lt_or_ge k l.length with h1 | h1
  · have e1 : (xs ++ [x]).getD k raw0 = xs.getD k raw0 := by
      rw [List.getD_eq_getElem?_getD, List.getElem?_append_left (by rw [h.1]; exact h1), ← List.getD_eq_getElem?_getD]
    have e2 : (l ++ [r]).getD k ro0 = l.getD k ro0 := by
      rw [List.getD_eq_getElem?_getD, List.getElem?_append_left h1, ← List.getD_eq_getElem?_getD]
    rw [e1, e2]
    exact h.2 k h1
  · obtain rfl : k = l.length := by simp at hk; omega
    have e1 : (xs ++ [x]).getD l.length raw0 = x := by
      rw [← h.1]; simp
    have e2 : (l ++ [r]).getD l.length ro0 = r := by simp
    rw [e1, e2]
    exact hx
theorem RosAt.app {w : World} {K : Nat → Prop} {xs ys : List Raw} {l m : List Ro} (h : RosAt w K xs l) (hx : RosAt w K ys m) : RosAt w K (xs ++ ys) (l ++ m) := by
  refine ⟨by simp [h.1, hx.1], fun k hk => ?_⟩
  rcases Nat.lt_or_ge k l.length with h1 | h1
  · have e1 : (xs ++ ys).getD k raw0 = xs.getD k raw0 := by
      rw [List.getD_eq_getElem?_getD, List.getElem?_append_left (by rw [h.1]; exact h1), ← List.getD_eq_getElem?_getD]
    have e2 : (l ++ m).getD k ro0 = l.getD k ro0 := by
      rw [List.getD_eq_getElem?_getD, List.getElem?_append_left h1, ← List.getD_eq_getElem?_getD]
    rw [e1, e2]
    exact h.2 k h1
  · rw [List.length_append] at hk
    have e1 : (xs ++ ys).getD k raw0 = ys.getD (k - l.length) raw0 := by
      rw [List.getD_eq_getElem?_getD, List.getElem?_append_right (by rw [h.1]; exact h1), h.1, ← List.getD_eq_getElem?_getD]
    have e2 : (l ++ m).getD k ro0 = m.getD (k - l.length) ro0 := by
      rw [List.getD_eq_getElem?_getD, List.getElem?_append_right h1, ← List.getD_eq_getElem?_getD]
    rw [e1, e2]
    exact hx.2 _ (by omega)
section
variable {P : Program} {ops : Array Oper} {rest : List Oper} {o : Oper} {a : Act} {K : Act → World → Prop} {Q : Exit → Act → World → Prop} {E : Prop} {w wx : World}
/-- rows appended to what the call has put together; what is read of the new ones is the call's own, and not the row itself -/
theorem wp_append_rws (T e : TypeId) (z : Value) (bytes : Nat) {s x : Operand} {v : Value} {k m c : Nat} {A : Option Addr} {t r : List Ro} {ys : List Raw}
    (ho : o.op = .call { callee := .builtin .append, args := #[s, x], argTypes := #[T, T] })
    (ht : P.underlying T = some (.slice e)) (hinfo : (P.info? e).map (fun i => (i.zero, i.size, i.bytes)) = some (some z, shRaw.size, bytes)) (hzs : z.cells.size = 2) (hby : bytes ≤ 1000)
    (hs : a.eval s = v) (hx : a.eval x = .slice A m c) (hown : OwnR wx w.heap.size e v k t) (hext : Ext w wx) (hv : Vec shRaw wx A m ys) (hr : RosAt wx (Kr wx w.heap.size v) ys r) (hk : k + m ≤ 1000000)
    (h : ∀ v' w1, OwnR w1 w.heap.size e v' (k + m) (t ++ r) → Hid (Ext w w1) → K (a.put o.dst v') w1) : o.wp P a wx K Q := by
  obtain ⟨xs, h1, h2⟩ := hown
  refine wp_append_cells (news := ys.flatMap shRaw.cells) T e z 2 bytes ho ht hinfo hzs (by omega) hby hs hx h1 hext (by rw [flat_len, hv.1]; rfl) (fun hm => by
      obtain ⟨b, off, hA, _, _⟩ := hv.2 hm
      subst hA
      exact ⟨_, rfl, hv.cells_at⟩) (fun u hu => by obtain ⟨y, _, hy⟩ := List.mem_flatMap.1 hu; exact shRaw.one y u hy) hk ?_
  intro v' w1 g1 g2 g3 g4
  have hb : ∀ b, b < wx.heap.size → Kr wx w.heap.size v b → Kr w1 w.heap.size v' b ∧ ∀ o, w1.cell? ⟨b, o, none⟩ = wx.cell? ⟨b, o, none⟩ := fun b hlt hb => by
    refine ⟨⟨hb.1, ?_, fun o => (But.frozen g3 (p := ⟨b, o, none⟩) hlt hb.2.1).trans (hb.2.2 o)⟩, fun o => But.cell (p := ⟨b, o, none⟩) g3 hlt hb.2.1⟩
    rcases g4 with g4 | g4
    · rw [g4]; exact hb.2.1
    · rw [g4]; intro e; cases e; omega
  refine h v' w1 ⟨xs ++ ys, ?_, (h2.keep (But.size g3) hb).app (hr.keep (But.size g3) hb)⟩ g2
  unfold OwnV
  rw [List.flatMap_append]
  exact g1
theorem wpList_append_rws (T e : TypeId) (z : Value) (bytes : Nat) {s x : Operand} {v : Value} {k m c : Nat} {A : Option Addr} {t r : List Ro} {ys : List Raw} (hgd : o.guard = none)
    (ho : o.op = .call { callee := .builtin .append, args := #[s, x], argTypes := #[T, T] })
    (ht : P.underlying T = some (.slice e)) (hinfo : (P.info? e).map (fun i => (i.zero, i.size, i.bytes)) = some (some z, shRaw.size, bytes)) (hzs : z.cells.size = 2) (hby : bytes ≤ 1000)
    (hs : a.eval s = v) (hx : a.eval x = .slice A m c) (hown : OwnR wx w.heap.size e v k t) (hext : Ext w wx) (hv : Vec shRaw wx A m ys) (hr : RosAt wx (Kr wx w.heap.size v) ys r) (hk : k + m ≤ 1000000)
    (h : ∀ v' w1, OwnR w1 w.heap.size e v' (k + m) (t ++ r) → Hid (Ext w w1) → wpList P ops Q rest (a.put o.dst v') w1) : wpList P ops Q (o :: rest) a wx :=
  wpList_plain hgd fun _ hK => wp_append_rws T e z bytes ho ht hinfo hzs hby hs hx hown hext hv hr hk fun v' w' h2 h3 => hK _ _ (h v' w' h2 h3)
theorem step_append_rws (T e : TypeId) (z : Value) (bytes : Nat) {s x : Operand} {v : Value} {k m c : Nat} {A : Option Addr} {t r : List Ro} {ys : List Raw} (hgd : o.guard = none)
    (ho : o.op = .call { callee := .builtin .append, args := #[s, x], argTypes := #[T, T] })
    (ht : P.underlying T = some (.slice e)) (hinfo : (P.info? e).map (fun i => (i.zero, i.size, i.bytes)) = some (some z, shRaw.size, bytes)) (hzs : z.cells.size = 2) (hby : bytes ≤ 1000)
    (hs : a.eval s = v) (hx : a.eval x = .slice A m c) (hown : OwnR wx w.heap.size e v k t) (hext : Ext w wx) (hv : Vec shRaw wx A m ys) (hr : RosAt wx (Kr wx w.heap.size v) ys r) (hk : k + m ≤ 1000000)
    (h : ∀ v' w1, OwnR w1 w.heap.size e v' (k + m) (t ++ r) → Hid (Ext w w1) → K (a.put o.dst v') w1) :
    if Region.wanted o (yielded ops a.tmps) = true then Oper.wp P o a wx K Q else E := by
  have hw : Region.wanted o (yielded ops a.tmps) = true := by simp [Region.wanted, hgd]
  rw [if_pos hw]
  exact wp_append_rws T e z bytes ho ht hinfo hzs hby hs hx hown hext hv hr hk h
end
section
variable {H : Type} {enc : TypeId × Value → H} {w : World} {base : Nat} {spare : Nat → Bool} {held : Bool}
/-- how a slice among the cells of what comes in is opened -/
theorem open_vecT {α : Type} {S : Shp α} {P : Program} {Q : α → Prop} {t e : TypeId} {v : Value} {fuel : Nat} {y : DataW H × List MemPlace} (ht : P.underlying t = some (.slice e)) (hC : P.cellsOf e = S.size)
    (hR : ∀ (fuel : Nat) (cs : List Value) (y : DataW H × List MemPlace), cs.length = S.size → DataW.trod enc P w base spare held fuel e cs = some y → ∃ x, cs = S.cells x ∧ Q x)
    (hf : DataW.trod enc P w base spare held fuel t [v] = some y) : ∃ (A : Option Addr) (n c : Nat) (l : List α), v = .slice A n c ∧ Vec S w A n l ∧ n ≤ maxLen ∧ ∀ x ∈ l, Q x := by
  rcases Go.Deep.open_slice ht hf with ⟨hcs, _⟩ | ⟨a, len, cap, m, n, D, Pl, hcs, _, hl, hm, hmm, _, hi⟩
  · simp only [List.cons.injEq, and_true] at hcs
    subst hcs
    exact ⟨none, 0, 0, [], rfl, Vec.none_ _ _ _, by unfold maxLen; omega, fun x hx => by cases hx⟩
  · simp only [List.cons.injEq, and_true] at hcs
    subst hcs
    have hmn : len ≤ m := by rw [hmm]; split <;> omega
    have key : ∀ k, k ≤ m → ∃ l : List α, l.length = k ∧ (∀ x ∈ l, Q x) ∧ ∀ i x, l[i]? = some x → ∀ j u, (S.cells x)[j]? = some u → w.cell? (a.add (i * S.size + j)) = some u := by
      intro k
      induction k with
      | zero => intro _; exact ⟨[], rfl, fun x hx => (by cases hx), fun i x hx => by simp at hx⟩
      | succ k ih =>
        intro hk
        obtain ⟨l, hl1, hlq, hl2⟩ := ih (by omega)
        obtain ⟨cs', hc1, hc2⟩ := hi k (by omega)
        rw [hC] at hc1
        obtain ⟨_, hc3, hc4⟩ := World.cells?_some hc1
        obtain ⟨x, rfl, hqx⟩ := hR n cs' _ hc3 hc2
        refine ⟨l ++ [x], by simp [hl1], fun z hz => (by
          rcases List.mem_append.1 hz with h | h
          · exact hlq z h
          · simp at h; subst h; exact hqx), fun i y hy j u hu => ?_⟩
        rcases Nat.lt_or_ge i k with hik | hik
        · rw [List.getElem?_append_left (by omega)] at hy
          exact hl2 i y hy j u hu
        · rw [List.getElem?_append_right (by omega), hl1] at hy
          obtain ⟨h0, h1⟩ := List.getElem?_eq_some_iff.1 hy
          have hik : i = k := by simp at h0; omega
          subst hik
          simp at h1
          subst h1
          have hj : j < S.size := by rw [← S.len x]; exact (List.getElem?_eq_some_iff.1 hu).1
          rw [← Go.Deep.add_add, hc4 j hj]
          exact hu
    obtain ⟨l, hl1, hlq, hl2⟩ := key len hmn
    refine ⟨some a, len, cap, l, rfl, Vec.of_add hl1 fun hn => ⟨a, rfl, ?_, hl2⟩, by omega, hlq⟩
    obtain ⟨x0, h0⟩ : ∃ x, l[0]? = some x := ⟨l[0]'(by omega), List.getElem?_eq_getElem (by omega)⟩
    obtain ⟨u0, hu0⟩ : ∃ u, (S.cells x0)[0]? = some u := ⟨(S.cells x0)[0]'(by rw [S.len]; exact S.pos), List.getElem?_eq_getElem (by rw [S.len]; exact S.pos)⟩
    have h1 := World.block_lt_of_cell? w _ (hl2 0 x0 h0 0 u0 hu0)
    simpa [Addr.add] using h1
/-- a slice of stitches among the cells of what comes in -/
theorem open_sts_in {fuel : Nat} {v : Value} {y : DataW H × List MemPlace} (h : DataW.trod enc Try.prog w base spare held fuel 63 [v] = some y) :
    ∃ (A : Option Addr) (n c : Nat) (l : List St), v = .slice A n c ∧ Vec shSt w A n l ∧ n ≤ maxLen ∧ Bytes l := by
  have hv : ∃ (A : Option Addr) (n c : Nat), v = .slice A n c := by
    rcases DataW.trod_slice Try.underlying63 h with ⟨h0, _⟩ | ⟨a, len, cap', elems, rest, m, hfu, hcs, _⟩
    · simp only [List.cons.injEq, and_true] at h0
      exact ⟨none, 0, 0, h0⟩
    · simp only [List.cons.injEq, and_true] at hcs
      exact ⟨some a, len, cap', hcs⟩
  obtain ⟨A, n, c, rfl⟩ := hv
  suffices hs : ∃ (A' : Option Addr) (n' c' : Nat) (l : List St), Value.slice A n c = .slice A' n' c' ∧ Vec shSt w A' n' l ∧ n' ≤ maxLen ∧ ∀ s ∈ l, 0 ≤ s.k ∧ s.k ≤ 255 by
    obtain ⟨A', n', c', l, h1, h2, h3, h4⟩ := hs
    exact ⟨A', n', c', l, h1, h2, h3, bytes_of h4⟩
  refine open_vecT Try.underlying63 (by kernel_rfl) (fun fuel cs y hl hy => ?_) h
  obtain ⟨xs, m, _, _, _, hxl, hel⟩ := DataW.trod_struct Try.underlying80 hy
  match cs, hl with
  | [c0, c1, c2, c3], _ =>
    match xs, hxl with
    | [y0, y1, y2, y3], _ =>
      have C0 : Try.prog.cellsOf 5 = 1 := by kernel_rfl
      have C1 : Try.prog.cellsOf 4 = 1 := by kernel_rfl
      have C2 : Try.prog.cellsOf 3 = 1 := by kernel_rfl
      have h0 := hel 0 _ rfl
      have h1 := hel 1 _ rfl
      have h2 := hel 2 _ rfl
      have h3 := hel 3 _ rfl
      simp [C0, C1, C2] at h0 h1 h2 h3
      obtain ⟨n0, e0, _, wf0⟩ := DataW.trod_int Try.underlying5 h0
      have hwf := bounds_u8 wf0
      obtain ⟨n1, e1, _⟩ := DataW.trod_bool Try.underlying4 h1
      obtain ⟨n2, e2, _⟩ := DataW.trod_int Try.underlying3 h2
      obtain ⟨n3, e3, _⟩ := DataW.trod_int Try.underlying3 h3
      simp at e0 e1 e2 e3
      subst e0
      subst e1
      subst e2
      subst e3
      exact ⟨⟨n0, n1, n2, n3⟩, rfl, hwf⟩
/-- a slice of rows among the cells of what comes in -/
theorem open_rows_in {fuel : Nat} {v : Value} {y : DataW H × List MemPlace} (h : DataW.trod enc Try.prog w base spare held fuel 29 [v] = some y) :
    ∃ (A : Option Addr) (n c : Nat) (l : List Ro), v = .slice A n c ∧ Rws w (fun _ => True) A n l := by
  obtain ⟨A, n, c, xs, e, hv, hm, hq⟩ := open_vecT (S := shRaw) (Q := fun x => ∃ r, RoAt w (fun _ => True) x r) Try.underlying29 (by kernel_rfl) (fun fuel cs y hl hy => by
    obtain ⟨xs, m, _, _, _, hxl, hel⟩ := DataW.trod_struct Try.underlying65 hy
    match cs, hl with
    | [c0, c1], _ =>
      match xs, hxl with
      | [y0, y1], _ =>
        have C1 : Try.prog.cellsOf 4 = 1 := by kernel_rfl
        have C2 : Try.prog.cellsOf 63 = 1 := by kernel_rfl
        have h0 := hel 0 _ rfl
        have h1 := hel 1 _ rfl
        simp [C1, C2] at h0 h1
        obtain ⟨b, e1, _⟩ := DataW.trod_bool Try.underlying4 h0
        obtain ⟨A', n', c', l, rfl, hv, hm, hb⟩ := open_sts_in h1
        simp at e1
        subst e1
        exact ⟨⟨b, A', n', c'⟩, rfl, ⟨b, l⟩, rfl, hv, hm, hb, fun _ _ _ _ => trivial⟩) h
  have key : ∀ xs : List Raw, (∀ x ∈ xs, ∃ r, RoAt w (fun _ => True) x r) → ∃ l, RosAt w (fun _ => True) xs l := by
    intro xs
    induction xs with
    | nil => intro _; exact ⟨[], rfl, fun k hk => by simp at hk⟩
    | cons x xs ih =>
      intro hx
      obtain ⟨r, hr⟩ := hx x (by simp)
      obtain ⟨l, hl⟩ := ih (fun z hz => hx z (by simp [hz]))
      refine ⟨r :: l, by simp [hl.1], fun k hk => ?_⟩
      cases k with
      | zero => simpa using hr
      | succ k => simpa using hl.2 k (by simpa using hk)
  obtain ⟨l, hl⟩ := key xs hq
  exact ⟨A, n, c, l, e, hm, xs, hv, fun _ _ _ _ => trivial, hl⟩
/-- a chart that comes in -/
theorem open_chart_arg {r : Reach} {b0 : Nat} {v : Value} {d : DataW H} {p : List MemPlace} (hv : Value.okWide Try.prog w r b0 31 v) (h : DataW.Trod enc Try.prog w base spare held 31 v d p) :
    ∃ (s : Int) (A : Option Addr) (n c : Nat) (l : List Ro), v = .agg #[.int .i64 s, .slice A n c] ∧ Rws w (fun _ => True) A n l := by
  obtain ⟨v0, v1, y0, y1, n, rfl, -, -, h0, h1⟩ := open_agg2 Try.underlying31 (by kernel_rfl) (by kernel_rfl) hv h
  obtain ⟨s, e0, -, -⟩ := DataW.trod_int Try.underlying3 h0
  obtain ⟨A, n, c, l, rfl, hl⟩ := open_rows_in h1
  simp at e0
  subst e0
  exact ⟨s, A, n, c, l, rfl, hl⟩
end
end Go.Proofs.Ytfhecgipfhhchaa
