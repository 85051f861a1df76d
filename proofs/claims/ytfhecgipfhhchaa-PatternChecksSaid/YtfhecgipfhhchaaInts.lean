/- Slices that read as lists of numbers, for the walks of this claim. -/
import Derived.Test.YtfhecgipfhhchaaBase
import Derived.Laws.OwnMore
import Derived.Laws.Rows
import Derived.Deep.AppendLies
import Derived.RegionTactic
import Derived.Maps.AppendAt
import Derived.OwnWalk
import Derived.Deep.RegionHeld3
namespace Go.Proofs.Ytfhecgipfhhchaa
set_option maxRecDepth 100000
open Go.RowKit

/-- the slice with this address and length reads as this list of numbers; its cells lie in memory that is there -/
def Ints (w : World) (A : Option Addr) (n : Nat) (xs : List Int) : Prop :=
  xs.length = n ∧ (0 < n → ∃ b off, A = some ⟨b, off, none⟩ ∧ b < w.heap.size ∧ ∀ j, j < n → w.cell? ⟨b, off + j, none⟩ = some (.int .i64 (xs.getD j 0)))

theorem Ints.len {w : World} {A : Option Addr} {n : Nat} {xs : List Int} (h : Ints w A n xs) : xs.length = n := h.1
theorem Ints.none_ (w : World) (A : Option Addr) : Ints w A 0 [] := ⟨rfl, fun h => absurd h (by omega)⟩
theorem Ints.keep {w w' : World} {A : Option Addr} {n : Nat} {xs : List Int} (h : Ints w A n xs) (hz : w.heap.size ≤ w'.heap.size) (hk : ∀ p : Addr, p.block < w.heap.size → w'.cell? p = w.cell? p) : Ints w' A n xs :=
  ⟨h.1, fun hn => by
    obtain ⟨b, off, e, hb, hc⟩ := h.2 hn
    exact ⟨b, off, e, by omega, fun j hj => (hk ⟨b, off + j, none⟩ hb).trans (hc j hj)⟩⟩
theorem Ints.ext {w w' : World} {A : Option Addr} {n : Nat} {xs : List Int} (h : Ints w A n xs) (hb : Ext w w') : Ints w' A n xs :=
  h.keep (Below.size hb) fun _ hp => Below.cell hb hp
/-- a slice whose first cell can be read has no spot -/
theorem Ints.of_add {w : World} {A : Option Addr} {n : Nat} {xs : List Int} (hl : xs.length = n) (h : 0 < n → ∃ ad, A = some ad ∧ ad.block < w.heap.size ∧ ∀ j, j < n → w.cell? (ad.add j) = some (.int .i64 (xs.getD j 0))) : Ints w A n xs := by
  refine ⟨hl, fun hn => ?_⟩
  obtain ⟨⟨b, off, spot⟩, e, hb, hc⟩ := h hn
  have h0 := hc 0 hn
  have hs : spot = none := by
    cases spot with
    | none => rfl
    | some s =>
      simp only [Addr.add, if_true, World.cell?] at h0
      split at h0 <;> simp at h0
  subst hs
  refine ⟨b, off, e, hb, fun j hj => ?_⟩
  rw [← hc j hj]
  unfold Addr.add
  split <;> simp_all
/-- what the call itself has put together -/
theorem Ints.of_own {w : World} {base : Nat} {e : TypeId} {n c : Nat} {A : Option Addr} {xs : List Int} (h : w.ownsRow base e 1 (.slice A n c) n (xs.map (Value.int .i64))) : Ints w A n xs := by
  have hl : xs.length = n := by simpa using h.1
  refine ⟨hl, fun hn => ?_⟩
  obtain ⟨g, cap, hv, _, hlt⟩ := h.form hn
  simp only [Value.slice.injEq, true_and] at hv
  obtain ⟨hA, hc⟩ := hv
  subst hA
  refine ⟨g, 0, rfl, hlt, fun j hj => ?_⟩
  have hj' : j < xs.length := by omega
  have := h.cellAt j (by omega)
  rw [Nat.zero_add, this, List.getElem?_map, List.getElem?_eq_getElem hj', List.getD_eq_getElem?_getD, List.getElem?_eq_getElem hj']
  rfl

/-- everything that was there is as it was, but for one block -/
def But (E : Option Nat) (w w' : World) : Prop := w.grownBy w' E
theorem But.size {E : Option Nat} {w w' : World} (h : But E w w') : w.heap.size ≤ w'.heap.size := World.grownBy.size h
theorem But.refl (E : Option Nat) (w : World) : But E w w := World.grownBy.refl w _
theorem But.trans {E : Option Nat} {a b c : World} (h : But E a b) (k : But E b c) : But E a c :=
  ⟨k.os.trans h.os, k.tape.trans h.tape, k.output.trans h.output, Nat.le_trans h.size k.size, fun i hi hne => (k.block i (Nat.lt_of_lt_of_le hi h.size) hne).trans (h.block i hi hne)⟩
theorem But.of_ext {a b : World} (h : Ext a b) (E : Option Nat) : But E a b := ⟨h.os, h.tape, h.output, h.size, fun i hi _ => h.block i hi⟩
theorem But.ext_none {a b : World} (h : But none a b) : Ext a b := ⟨h.os, h.tape, h.output, h.size, fun i hi => h.block i hi (by simp)⟩
theorem But.alloc {E : Option Nat} {a w : World} (h : But E a w) (o : Obj) : But E a (w.alloc o) := h.trans (But.of_ext ((Ext.refl _).alloc o) E)
theorem But.setCell {E : Option Nat} {a w : World} (h : But E a w) {p : Addr} (hp : a.heap.size ≤ p.block) (u : Value) : But E a (w.setCell p u) :=
  ⟨h.os, h.tape, h.output, by simpa [World.setCell] using h.size, fun i hi hne => (Below.heap_setCell w p u i (by rintro rfl; omega)).trans (h.block i hi hne)⟩
theorem But.own {a w : World} {g : Nat} (h : But (some g) a w) {p : Addr} (hp : p.block = g) (u : Value) : But (some g) a (w.setCell p u) :=
  ⟨h.os, h.tape, h.output, by simpa [World.setCell] using h.size, fun i hi hne => (Below.heap_setCell w p u i (by rintro rfl; exact hne (by rw [hp]))).trans (h.block i hi hne)⟩
theorem But.cell {E : Option Nat} {w w' : World} (h : But E w w') {p : Addr} (hp : p.block < w.heap.size) (hne : some p.block ≠ E) : w'.cell? p = w.cell? p := World.cell?_of_block (h.block p.block hp hne)
theorem But.below {E : Option Nat} {w w' : World} {B : Nat} (h : But E w w') (hB : B ≤ w.heap.size) (hE : ∀ k, E = some k → B ≤ k) : Below B w w' :=
  ⟨h.os, h.tape, h.output, h.size, fun k hk => h.block k (by omega) (fun e => by have := hE k e.symm; omega)⟩

/-- a row of n cells that hold the values of a function, all of which may be written -/
def RowV (w : World) (g n : Nat) (f : Nat → Value) : Prop := g < w.heap.size ∧ ∀ j, j < n → w.cell? ⟨g, j, none⟩ = some (f j) ∧ w.frozen? ⟨g, j, none⟩ = false
theorem RowV.lt {w : World} {g n : Nat} {f : Nat → Value} (h : RowV w g n f) : g < w.heap.size := h.1
theorem RowV.at_ {w : World} {g n : Nat} {f : Nat → Value} (h : RowV w g n f) {j : Nat} (hj : j < n) : w.cell? ⟨g, j, none⟩ = some (f j) := (h.2 j hj).1
theorem RowV.free {w : World} {g n : Nat} {f : Nat → Value} (h : RowV w g n f) {j : Nat} (hj : j < n) : w.frozen? ⟨g, j, none⟩ = false := (h.2 j hj).2
theorem RowV.but {w w' : World} {g n : Nat} {f : Nat → Value} {E : Option Nat} (h : RowV w g n f) (hb : But E w w') (hne : some g ≠ E) : RowV w' g n f :=
  ⟨Nat.lt_of_lt_of_le h.1 hb.size, fun j hj => ⟨(hb.cell (p := ⟨g, j, none⟩) h.1 hne).trans (h.2 j hj).1, (World.frozen?_of_block (hb.block g h.1 hne)).trans (h.2 j hj).2⟩⟩
theorem RowV.ext {w w' : World} {g n : Nat} {f : Nat → Value} (h : RowV w g n f) (hb : Ext w w') : RowV w' g n f := h.but (But.of_ext hb none) (by simp)
theorem RowV.set {w : World} {g n k : Nat} {f : Nat → Value} (h : RowV w g n f) (hk : k < n) (v : Value) : RowV (w.setCell ⟨g, k, none⟩ v) g n (fun j => if j = k then v else f j) := by
  refine ⟨by simpa [World.setCell] using h.1, fun j hj => ⟨?_, ?_⟩⟩
  · by_cases e : j = k
    · subst e
      simp only [if_true]
      exact World.cell?_setCell_same w ⟨g, j, none⟩ _ (h.2 j hj).1
    · simp only [if_neg e]
      rw [World.cell?_setCell_other w ⟨g, k, none⟩ ⟨g, j, none⟩ _ (fun h => e (by cases h; rfl))]
      exact (h.2 j hj).1
  · rw [World.frozen?_setCell]
    exact (h.2 j hj).2
theorem RowV.congr {w : World} {g n : Nat} {f f' : Nat → Value} (h : RowV w g n f) (e : ∀ j, j < n → f j = f' j) : RowV w g n f' :=
  ⟨h.1, fun j hj => by rw [← e j hj]; exact h.2 j hj⟩
/-- what make has made -/
theorem RowV.of_own {w : World} {base g n c : Nat} {e : TypeId} {size : Nat} {xs : List Value} (h : w.ownsRow base e size (.slice (some ⟨g, 0, none⟩) n c) n xs) : RowV w g (n * size) (fun j => xs.getD j undef) := by
  have hlt : g < w.heap.size := by
    rcases h.2 with ⟨h', _⟩ | ⟨g', cap', cur, h', _, hg, _⟩
    · simp at h'
    · simp only [Value.slice.injEq, Option.some.injEq, Addr.mk.injEq, and_true, true_and] at h'
      obtain ⟨rfl, rfl⟩ := h'
      exact (Array.getElem?_eq_some_iff.1 hg).1
  refine ⟨hlt, fun j hj => ⟨?_, h.frozenAt j⟩⟩
  have hl : j < xs.length := by rw [h.1]; exact hj
  simp only [h.cellAt j hj, List.getD_eq_getElem?_getD, List.getElem?_eq_getElem hl]
  rfl
theorem RowV.made {w : World} {base g n : Nat} {e : TypeId} (z : Value) (hz : z.cells = #[z]) (h : w.ownsRow base e 1 (.slice (some ⟨g, 0, none⟩) n n) n (madeCells z.cells (n * 1)).toList) : RowV w g n (fun _ => z) := by
  have := RowV.of_own h
  rw [Nat.mul_one] at this
  refine this.congr fun j hj => ?_
  simp [madeCells, hz, hj, Nat.mod_one]
theorem Ints.of_row {w : World} {g n : Nat} {f : Nat → Int} (h : RowV w g n (fun j => .int .i64 (f j))) : Ints w (some ⟨g, 0, none⟩) n ((List.range n).map f) :=
  ⟨by simp, fun _ => ⟨g, 0, rfl, h.1, fun j hj => by
    rw [Nat.zero_add, h.at_ hj]
    simp [List.getD_eq_getElem?_getD, hj]⟩⟩

theorem own_base {w : World} {base : Nat} {e : TypeId} {size : Nat} {v : Value} {n : Nat} {xs : List Value} (h : w.ownsRow base e size v n xs) : ∀ k, v.ownBlock = some k → base ≤ k := by
  intro k hk
  rcases h.2 with ⟨h1, _⟩ | ⟨g, cap, cur, h1, hb, _⟩
  · subst h1; simp [Value.ownBlock] at hk
  · subst h1; simp [Value.ownBlock] at hk; omega
/-- one element appended to what the call has put together: its cells lie in block g -/
theorem wp_append_elem {P : Program} {o : Oper} {a : Act} {K : Act → World → Prop} {Q : Exit → Act → World → Prop} {w wx : World} (T e : TypeId) (z : Value) (size bytes : Nat) {s x : Operand} {v : Value} {k : Nat} (g : Nat) {L : List Value} (news : List Value)
    (ho : o.op = .call { callee := .builtin .append, args := #[s, x], argTypes := #[T, T] })
    (ht : P.underlying T = some (.slice e)) (hinfo : (P.info? e).map (fun i => (i.zero, i.size, i.bytes)) = some (some z, size, bytes)) (hzs : z.cells.size = size) (hsz : 0 < size) (hby : bytes ≤ 1000)
    (hs : a.eval s = v) (hx : a.eval x = .slice (some ⟨g, 0, none⟩) 1 1) (hown : wx.ownsRow w.heap.size e size v k L) (hext : Ext w wx)
    (hl : news.length = size) (hc : ∀ j u, news[j]? = some u → wx.cell? ⟨g, j, none⟩ = some u) (h1 : ∀ u ∈ news, u.oneCell' = true) (hk : k ≤ 1000000)
    (h : ∀ v' w1, w1.ownsRow w.heap.size e size v' (k + 1) (L ++ news) → Ext w w1 → wx.grownBy w1 v.ownBlock → K (a.put o.dst v') w1) : o.wp P a wx K Q := by
  obtain ⟨i0, hi, hz0, hz1, hz2⟩ := info_parts hinfo
  refine wp_append_own _ s x T ho w.heap.size e i0 z size bytes ht hi hz0 hz1 hz2 hzs hsz v k _ hs hown ⟨g, 0, none⟩ 1 1 news hx (by omega) ?_ h1 ?_ ?_ (Below.size hext) ?_
  · intro j u hj
    have := hc j u hj
    rwa [show ((⟨g, 0, none⟩ : Addr).add j) = ⟨g, j, none⟩ by unfold Addr.add; split <;> simp_all]
  · unfold maxLen; omega
  · have := Nat.mul_le_mul (show k + 1 ≤ 1000001 by omega) hby
    omega
  · intro v' w1 hown' hgrow _
    exact h v' w1 hown' (Below.grown hext hgrow (Below.size hext) (own_base hown)) hgrow
/-- the call has put together these numbers -/
def OwnI (w : World) (B : Nat) (e : TypeId) (v : Value) (k : Nat) (L : List Int) : Prop := w.ownsRow B e 1 v k (L.map (Value.int .i64))
theorem OwnI.nil (w : World) (B : Nat) (e : TypeId) : OwnI w B e (.slice none 0 0) 0 [] := World.ownsRow_nil _ _ _ _
theorem OwnI.alloc {w : World} {B : Nat} {e : TypeId} {v : Value} {k : Nat} {L : List Int} (h : OwnI w B e v k L) (o : Obj) : OwnI (w.alloc o) B e v k L := World.ownsRow.alloc h o
theorem OwnI.drew {w : World} {B : Nat} {e : TypeId} {v : Value} {k : Nat} {L : List Int} (h : OwnI w B e v k L) : OwnI w.drew B e v k L := World.ownsRow.drew h
/-- one number appended -/
theorem wp_append_int {P : Program} {o : Oper} {a : Act} {K : Act → World → Prop} {Q : Exit → Act → World → Prop} {w wx : World} (T e : TypeId) {s x : Operand} {v : Value} {k : Nat} (g : Nat) {L : List Int} (X : Int)
    (ho : o.op = .call { callee := .builtin .append, args := #[s, x], argTypes := #[T, T] })
    (ht : P.underlying T = some (.slice e)) (hinfo : (P.info? e).map (fun i => (i.zero, i.size, i.bytes)) = some (some (.int .i64 0), 1, 8))
    (hs : a.eval s = v) (hx : a.eval x = .slice (some ⟨g, 0, none⟩) 1 1) (hown : OwnI wx w.heap.size e v k L) (hext : Ext w wx) (hc : wx.cell? ⟨g, 0, none⟩ = some (.int .i64 X)) (hk : k ≤ 1000000)
    (h : ∀ v' w1, OwnI w1 w.heap.size e v' (k + 1) (L ++ [X]) → Hid (Ext w w1) → wx.grownBy w1 v.ownBlock → K (a.put o.dst v') w1) : o.wp P a wx K Q := by
  refine wp_append_elem T e (.int .i64 0) 1 8 g [.int .i64 X] ho ht hinfo rfl (by omega) (by omega) hs hx hown hext rfl ?_ ?_ hk ?_
  · intro j u hj
    match j, hj with
    | 0, hj => simp at hj; subst hj; exact hc
  · intro u hu; simp at hu; subst hu; rfl
  · intro v' w1 h1 h2 h3
    exact h v' w1 (by unfold OwnI; rw [List.map_append]; exact h1) h2 h3
theorem wpList_append_int {P : Program} {ops : Array Oper} {rest : List Oper} {o : Oper} {a : Act} {Q : Exit → Act → World → Prop} {w wx : World} (T e : TypeId) {s x : Operand} {v : Value} {k : Nat} (g : Nat) {L : List Int} (X : Int)
    (hgd : o.guard = none) (ho : o.op = .call { callee := .builtin .append, args := #[s, x], argTypes := #[T, T] })
    (ht : P.underlying T = some (.slice e)) (hinfo : (P.info? e).map (fun i => (i.zero, i.size, i.bytes)) = some (some (.int .i64 0), 1, 8))
    (hs : a.eval s = v) (hx : a.eval x = .slice (some ⟨g, 0, none⟩) 1 1) (hown : OwnI wx w.heap.size e v k L) (hext : Ext w wx) (hc : wx.cell? ⟨g, 0, none⟩ = some (.int .i64 X)) (hk : k ≤ 1000000)
    (h : ∀ v' w1, OwnI w1 w.heap.size e v' (k + 1) (L ++ [X]) → Hid (Ext w w1) → wpList P ops Q rest (a.put o.dst v') w1) :
    wpList P ops Q (o :: rest) a wx :=
  wpList_plain hgd fun _ hK => wp_append_int T e g X ho ht hinfo hs hx hown hext hc hk fun v' w' h2 h3 _ => hK _ _ (h v' w' h2 h3)
theorem step_append_int {P : Program} {ops : Array Oper} {o : Oper} {a : Act} {K : Act → World → Prop} {Q : Exit → Act → World → Prop} {E : Prop} {w wx : World} (T e : TypeId) {s x : Operand} {v : Value} {k : Nat} (g : Nat) {L : List Int} (X : Int)
    (hgd : o.guard = none) (ho : o.op = .call { callee := .builtin .append, args := #[s, x], argTypes := #[T, T] })
    (ht : P.underlying T = some (.slice e)) (hinfo : (P.info? e).map (fun i => (i.zero, i.size, i.bytes)) = some (some (.int .i64 0), 1, 8))
    (hs : a.eval s = v) (hx : a.eval x = .slice (some ⟨g, 0, none⟩) 1 1) (hown : OwnI wx w.heap.size e v k L) (hext : Ext w wx) (hc : wx.cell? ⟨g, 0, none⟩ = some (.int .i64 X)) (hk : k ≤ 1000000)
    (h : ∀ v' w1, OwnI w1 w.heap.size e v' (k + 1) (L ++ [X]) → Hid (Ext w w1) → wx.grownBy w1 v.ownBlock → K (a.put o.dst v') w1) :
    if Region.wanted o (yielded ops a.tmps) = true then Oper.wp P o a wx K Q else E := by
  have hw : Region.wanted o (yielded ops a.tmps) = true := by simp [Region.wanted, hgd]
  rw [if_pos hw]
  exact wp_append_int T e g X ho ht hinfo hs hx hown hext hc hk h
theorem run_append_of_nil {P : Program} (w : World) (base : Nat) (t ty e : TypeId) (i : TypeInfo) (size : Nat) (ht : P.underlying t = some (.slice e)) (hi : P.info? e = some i)
    (v : Value) (n : Nat) (xs : List Value) (hown : w.ownsRow base e size v n xs) (c : Nat) : (Builtin.append_ #[t, t] ty #[v, .slice none 0 c]).run P w = .ok v w := by
  rcases hown.2 with ⟨rfl, rfl⟩ | ⟨g, cap, cur, rfl, _, _, hnc, _⟩
  · simp [Builtin.append_, run_underlying ht, sizeOf, typeInfo, hi, Builtin.lenOf, Builtin.firstCells]
  · simp [Builtin.append_, run_underlying ht, sizeOf, typeInfo, hi, Builtin.lenOf, Builtin.firstCells, hnc, storeCells]
/-- a list of numbers appended to what the call has put together -/
theorem wp_append_ints {P : Program} {o : Oper} {a : Act} {K : Act → World → Prop} {Q : Exit → Act → World → Prop} {w wx : World} (T e : TypeId) {s x : Operand} {v : Value} {k n c : Nat} {A : Option Addr} {L xs : List Int}
    (ho : o.op = .call { callee := .builtin .append, args := #[s, x], argTypes := #[T, T] })
    (ht : P.underlying T = some (.slice e)) (hinfo : (P.info? e).map (fun i => (i.zero, i.size, i.bytes)) = some (some (.int .i64 0), 1, 8))
    (hs : a.eval s = v) (hx : a.eval x = .slice A n c) (hown : OwnI wx w.heap.size e v k L) (hext : Ext w wx) (hxs : Ints wx A n xs) (hk : k + n ≤ 1000000)
    (h : ∀ v' w1, OwnI w1 w.heap.size e v' (k + n) (L ++ xs) → Hid (Ext w w1) → K (a.put o.dst v') w1) : o.wp P a wx K Q := by
  obtain ⟨i0, hi, hz0, hz1, hz2⟩ := info_parts hinfo
  have key : ∃ v' w1, (Builtin.append_ #[T, T] o.type #[v, .slice A n c]).run P wx = .ok v' w1 ∧ OwnI w1 w.heap.size e v' (k + n) (L ++ xs) ∧ Ext w w1 := by
    rcases A with _ | ad
    · have hn : n = 0 := by
        rcases Nat.eq_zero_or_pos n with h0 | h0
        · exact h0
        · obtain ⟨b, off, h, _⟩ := hxs.2 h0
          cases h
      subst hn
      have hn : xs = [] := List.eq_nil_of_length_eq_zero hxs.1
      subst hn
      exact ⟨v, wx, run_append_of_nil wx _ T o.type e i0 1 ht hi v k _ hown c, by simpa using hown, hext⟩
    · have hcells : ∀ j u, (xs.map (Value.int .i64))[j]? = some u → wx.cell? (ad.add j) = some u := by
        intro j u hu
        rw [List.getElem?_map] at hu
        obtain ⟨y, hy, rfl⟩ := Option.map_eq_some_iff.1 hu
        have hj : j < n := by rw [← hxs.1]; exact (List.getElem?_eq_some_iff.1 hy).1
        obtain ⟨b, off, hA, _, hc⟩ := hxs.2 (by omega)
        cases hA
        have := hc j hj
        rw [show ((⟨b, off, none⟩ : Addr).add j) = ⟨b, off + j, none⟩ by unfold Addr.add; split <;> simp_all, this, List.getD_eq_getElem?_getD, hy]
        rfl
      obtain ⟨v', w1, hrun, h2, h3, _⟩ := run_append_own_at (P := P) wx w.heap.size T o.type e i0 (.int .i64 0) 1 8 ht hi hz0 hz1 hz2 rfl (by omega) v k _ hown ad n c (xs.map (Value.int .i64)) (by simp [hxs.1]) hcells
        (fun u hu => by obtain ⟨y, _, rfl⟩ := List.mem_map.1 hu; rfl) (by unfold maxLen; omega) (by omega) (Below.size hext)
      exact ⟨v', w1, hrun, by unfold OwnI; rw [List.map_append]; exact h2, Below.grown hext h3 (Below.size hext) (own_base hown)⟩
  obtain ⟨v', w1, hrun, h2, h3⟩ := key
  unfold Oper.wp execOp
  simp only [ho, resolve, invoke, builtin, Sem.run_bind, Sem.run_pure, Result.andThen_ok, List.map_toArray, List.map_cons, List.map_nil, hs, hx, hrun]
  exact h v' w1 h2 h3
theorem wpList_append_ints {P : Program} {ops : Array Oper} {rest : List Oper} {o : Oper} {a : Act} {Q : Exit → Act → World → Prop} {w wx : World} (T e : TypeId) {s x : Operand} {v : Value} {k n c : Nat} {A : Option Addr} {L xs : List Int}
    (hgd : o.guard = none) (ho : o.op = .call { callee := .builtin .append, args := #[s, x], argTypes := #[T, T] })
    (ht : P.underlying T = some (.slice e)) (hinfo : (P.info? e).map (fun i => (i.zero, i.size, i.bytes)) = some (some (.int .i64 0), 1, 8))
    (hs : a.eval s = v) (hx : a.eval x = .slice A n c) (hown : OwnI wx w.heap.size e v k L) (hext : Ext w wx) (hxs : Ints wx A n xs) (hk : k + n ≤ 1000000)
    (h : ∀ v' w1, OwnI w1 w.heap.size e v' (k + n) (L ++ xs) → Hid (Ext w w1) → wpList P ops Q rest (a.put o.dst v') w1) : wpList P ops Q (o :: rest) a wx :=
  wpList_plain hgd fun _ hK => wp_append_ints T e ho ht hinfo hs hx hown hext hxs hk fun v' w' h2 h3 => hK _ _ (h v' w' h2 h3)
theorem OwnI.empty (w : World) (e : TypeId) : OwnI (w.alloc (.cells #[] e)) w.heap.size e (.slice (some ⟨w.heap.size, 0, none⟩) 0 0) 0 [] :=
  ⟨rfl, .inr ⟨w.heap.size, 0, #[], rfl, Nat.le_refl _, heap_alloc_new w _, Nat.le_refl _, by simp, rfl, rfl⟩⟩
/-- what is put together is a slice that reads as the list -/
theorem own_ints {w : World} {B k : Nat} {e : TypeId} {v : Value} {xs : List Int} (h : OwnI w B e v k xs) : ∃ A c, v = .slice A k c ∧ Ints w A k xs := by
  rcases h.2 with ⟨h1, h2⟩ | ⟨g, cap, cur, h1, _⟩
  · subst h2
    subst h1
    exact ⟨none, 0, rfl, Ints.of_own h⟩
  · subst h1
    exact ⟨_, _, rfl, Ints.of_own h⟩
theorem map_range_succ {α : Type} (f : Nat → α) (k : Nat) : (List.range (k + 1)).map f = (List.range k).map f ++ [f k] := by
  rw [List.range_succ, List.map_append]; rfl
end Go.Proofs.Ytfhecgipfhhchaa
