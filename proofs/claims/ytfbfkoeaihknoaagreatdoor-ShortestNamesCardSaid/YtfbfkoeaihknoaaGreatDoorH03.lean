/- Slices that read as lists of numbers, for the walks of this claim. -/
import Derived.Test.YtfbfkoeaihknoaaGreatDoorH01
import Derived.Laws.OwnMore
import Derived.Laws.Rows
import Derived.Deep.AppendLies
import Derived.RegionTactic
import Derived.Maps.AppendAt
import Derived.OwnWalk
import Derived.Deep.RegionHeld3
import Derived.Deep.Slices
import Derived.Test.YtfbfkoeaihknoaaGreatDoorRows
import Derived.Test.YtfbfkoeaihknoaaGreatDoorH00
import Derived.OpenShut
import Derived.Laws.StructEq
import Derived.Lib.SmallJoins
import Derived.Test.YtfbfkoeaihknoaaGreatDoorH02
import Derived.Lib.AtoiBound
import Derived.Lib.AppendIntMem
import Derived.Lib.AtoiErrMem
namespace Go.Proofs.YtfbfkoeaihknoaaGreatDoor
set_option maxRecDepth 100000
open Go.RowKit

/-- the slice with this address and length reads as this list of numbers; its cells lie in memory that is there -/
def Ints (w : World) (A : Option Addr) (n : Nat) (xs : List Int) : Prop :=
  xs.length = n ∧ (0 < n → ∃ b off, A = some ⟨b, off, none⟩ ∧ b < w.heap.size ∧ ∀ j, j < n → w.cell? ⟨b, off + j, none⟩ = some (.int .i64 (xs.getD j 0)))

theorem Ints.len {w : World} {A : Option Addr} {n : Nat} {xs : List Int} (h : Ints w A n xs) : xs.length = n := h.1
theorem Ints.none_ (w : World) (A : Option Addr) : Ints w A 0 [] := ⟨rfl, fun h => absurd h (by omega)⟩
theorem Ints.keep {w w' : World} {A : Option Addr} {n : Nat} {xs : List Int} (h : Ints w A n xs) (hz : w.heap.size ≤ w'.heap.size) (hk : ∀ p : Addr, p.block < w.heap.size → w'.cell? p = w.cell? p) : Ints w' A n xs :=
  ⟨h.1, fun hn => by
    obtain ⟨b, off, e, hb, hc⟩ := h.2 hn
    exact ⟨b, off, e, by omega, fun j hj => (hk ⟨b, off + j, none⟩ hb).trans (hc j hj)⟩⟩
theorem Ints.ext {w w' : World} {A : Option Addr} {n : Nat} {xs : List Int} (h : Ints w A n xs) (hb : Ext w w') : Ints w' A n xs :=
  h.keep (Below.size hb) fun _ hp => Below.cell hb hp
/-- a slice whose first cell can be read has no spot -/
theorem Ints.of_add {w : World} {A : Option Addr} {n : Nat} {xs : List Int} (hl : xs.length = n) (h : 0 < n → ∃ ad, A = some ad ∧ ad.block < w.heap.size ∧ ∀ j, j < n → w.cell? (ad.add j) = some (.int .i64 (xs.getD j 0))) : Ints w A n xs := by
  refine ⟨hl, fun hn => ?_⟩
  obtain ⟨⟨b, off, spot⟩, e, hb, hc⟩ := h hn
  have h0 := hc 0 hn
  have hs : spot = none := by
    cases spot with
    | none => rfl
    | some s =>
      simp only [Addr.add, if_true, World.cell?] at h0
      split at h0 <;> simp at h0
  subst hs
  refine ⟨b, off, e, hb, fun j hj => ?_⟩
  rw [← hc j hj]
  unfold Addr.add
  split <;> simp_all
/-- what the call itself has put together -/
theorem Ints.of_own {w : World} {base : Nat} {e : TypeId} {n c : Nat} {A : Option Addr} {xs : List Int} (h : w.ownsRow base e 1 (.slice A n c) n (xs.map (Value.int .i64))) : Ints w A n xs := by
  have hl : xs.length = n := by simpa using h.1
  refine ⟨hl, fun hn => ?_⟩
  obtain ⟨g, cap, hv, _, hlt⟩ := h.form hn
  simp only [Value.slice.injEq, true_and] at hv
  obtain ⟨hA, hc⟩ := hv
  subst hA
  refine ⟨g, 0, rfl, hlt, fun j hj => ?_⟩
  have hj' : j < xs.length := by omega
  have := h.cellAt j (by omega)
  rw [Nat.zero_add, this, List.getElem?_map, List.getElem?_eq_getElem hj', List.getD_eq_getElem?_getD, List.getElem?_eq_getElem hj']
  rfl

/-- everything that was there is as it was, but for one block -/
def But (E : Option Nat) (w w' : World) : Prop := w.grownBy w' E
theorem But.size {E : Option Nat} {w w' : World} (h : But E w w') : w.heap.size ≤ w'.heap.size := World.grownBy.size h
theorem But.refl (E : Option Nat) (w : World) : But E w w := World.grownBy.refl w _
theorem But.trans {E : Option Nat} {a b c : World} (h : But E a b) (k : But E b c) : But E a c :=
  ⟨k.os.trans h.os, k.tape.trans h.tape, k.output.trans h.output, Nat.le_trans h.size k.size, fun i hi hne => (k.block i (Nat.lt_of_lt_of_le hi h.size) hne).trans (h.block i hi hne)⟩
theorem But.of_ext {a b : World} (h : Ext a b) (E : Option Nat) : But E a b := ⟨h.os, h.tape, h.output, h.size, fun i hi _ => h.block i hi⟩
theorem But.ext_none {a b : World} (h : But none a b) : Ext a b := ⟨h.os, h.tape, h.output, h.size, fun i hi => h.block i hi (by simp)⟩
theorem But.alloc {E : Option Nat} {a w : World} (h : But E a w) (o : Obj) : But E a (w.alloc o) := h.trans (But.of_ext ((Ext.refl _).alloc o) E)
theorem But.setCell {E : Option Nat} {a w : World} (h : But E a w) {p : Addr} (hp : a.heap.size ≤ p.block) (u : Value) : But E a (w.setCell p u) :=
  ⟨h.os, h.tape, h.output, by simpa [World.setCell] using h.size, fun i hi hne => (Below.heap_setCell w p u i (by rintro rfl; omega)).trans (h.block i hi hne)⟩
theorem But.own {a w : World} {g : Nat} (h : But (some g) a w) {p : Addr} (hp : p.block = g) (u : Value) : But (some g) a (w.setCell p u) :=
  ⟨h.os, h.tape, h.output, by simpa [World.setCell] using h.size, fun i hi hne => (Below.heap_setCell w p u i (by rintro rfl; exact hne (by rw [hp]))).trans (h.block i hi hne)⟩
theorem But.cell {E : Option Nat} {w w' : World} (h : But E w w') {p : Addr} (hp : p.block < w.heap.size) (hne : some p.block ≠ E) : w'.cell? p = w.cell? p := World.cell?_of_block (h.block p.block hp hne)
theorem But.below {E : Option Nat} {w w' : World} {B : Nat} (h : But E w w') (hB : B ≤ w.heap.size) (hE : ∀ k, E = some k → B ≤ k) : Below B w w' :=
  ⟨h.os, h.tape, h.output, h.size, fun k hk => h.block k (by omega) (fun e => by have := hE k e.symm; omega)⟩

/-- a row of n cells that hold the values of a function, all of which may be written -/
def RowV (w : World) (g n : Nat) (f : Nat → Value) : Prop := g < w.heap.size ∧ ∀ j, j < n → w.cell? ⟨g, j, none⟩ = some (f j) ∧ w.frozen? ⟨g, j, none⟩ = false
theorem RowV.lt {w : World} {g n : Nat} {f : Nat → Value} (h : RowV w g n f) : g < w.heap.size := h.1
theorem RowV.at_ {w : World} {g n : Nat} {f : Nat → Value} (h : RowV w g n f) {j : Nat} (hj : j < n) : w.cell? ⟨g, j, none⟩ = some (f j) := (h.2 j hj).1
theorem RowV.free {w : World} {g n : Nat} {f : Nat → Value} (h : RowV w g n f) {j : Nat} (hj : j < n) : w.frozen? ⟨g, j, none⟩ = false := (h.2 j hj).2
theorem RowV.but {w w' : World} {g n : Nat} {f : Nat → Value} {E : Option Nat} (h : RowV w g n f) (hb : But E w w') (hne : some g ≠ E) : RowV w' g n f :=
  ⟨Nat.lt_of_lt_of_le h.1 hb.size, fun j hj => ⟨(hb.cell (p := ⟨g, j, none⟩) h.1 hne).trans (h.2 j hj).1, (World.frozen?_of_block (hb.block g h.1 hne)).trans (h.2 j hj).2⟩⟩
theorem RowV.ext {w w' : World} {g n : Nat} {f : Nat → Value} (h : RowV w g n f) (hb : Ext w w') : RowV w' g n f := h.but (But.of_ext hb none) (by simp)
theorem RowV.set {w : World} {g n k : Nat} {f : Nat → Value} (h : RowV w g n f) (hk : k < n) (v : Value) : RowV (w.setCell ⟨g, k, none⟩ v) g n (fun j => if j = k then v else f j) := by
  refine ⟨by simpa [World.setCell] using h.1, fun j hj => ⟨?_, ?_⟩⟩
  · by_cases e : j = k
    · subst e
      simp only [if_true]
      exact World.cell?_setCell_same w ⟨g, j, none⟩ _ (h.2 j hj).1
    · simp only [if_neg e]
      rw [World.cell?_setCell_other w ⟨g, k, none⟩ ⟨g, j, none⟩ _ (fun h => e (by cases h; rfl))]
      exact (h.2 j hj).1
  · rw [World.frozen?_setCell]
    exact (h.2 j hj).2
theorem RowV.congr {w : World} {g n : Nat} {f f' : Nat → Value} (h : RowV w g n f) (e : ∀ j, j < n → f j = f' j) : RowV w g n f' :=
  ⟨h.1, fun j hj => by rw [← e j hj]; exact h.2 j hj⟩
/-- what make has made -/
theorem RowV.of_own {w : World} {base g n c : Nat} {e : TypeId} {size : Nat} {xs : List Value} (h : w.ownsRow base e size (.slice (some ⟨g, 0, none⟩) n c) n xs) : RowV w g (n * size) (fun j => xs.getD j undef) := by
  have hlt : g < w.heap.size := by
    rcases h.2 with ⟨h', _⟩ | ⟨g', cap', cur, h', _, hg, _⟩
    · simp at h'
    · simp only [Value.slice.injEq, Option.some.injEq, Addr.mk.injEq, and_true, true_and] at h'
      obtain ⟨rfl, rfl⟩ := h'
      exact (Array.getElem?_eq_some_iff.1 hg).1
  refine ⟨hlt, fun j hj => ⟨?_, h.frozenAt j⟩⟩
  have hl : j < xs.length := by rw [h.1]; exact hj
  simp only [h.cellAt j hj, List.getD_eq_getElem?_getD, List.getElem?_eq_getElem hl]
  rfl
theorem RowV.made {w : World} {base g n : Nat} {e : TypeId} (z : Value) (hz : z.cells = #[z]) (h : w.ownsRow base e 1 (.slice (some ⟨g, 0, none⟩) n n) n (madeCells z.cells (n * 1)).toList) : RowV w g n (fun _ => z) := by
  have := RowV.of_own h
  rw [Nat.mul_one] at this
  refine this.congr fun j hj => ?_
  simp [madeCells, hz, hj, Nat.mod_one]
theorem Ints.of_row {w : World} {g n : Nat} {f : Nat → Int} (h : RowV w g n (fun j => .int .i64 (f j))) : Ints w (some ⟨g, 0, none⟩) n ((List.range n).map f) :=
  ⟨by simp, fun _ => ⟨g, 0, rfl, h.1, fun j hj => by
    rw [Nat.zero_add, h.at_ hj]
    simp [List.getD_eq_getElem?_getD, hj]⟩⟩

theorem own_base {w : World} {base : Nat} {e : TypeId} {size : Nat} {v : Value} {n : Nat} {xs : List Value} (h : w.ownsRow base e size v n xs) : ∀ k, v.ownBlock = some k → base ≤ k := by
  intro k hk
  rcases h.2 with ⟨h1, _⟩ | ⟨g, cap, cur, h1, hb, _⟩
  · subst h1; simp [Value.ownBlock] at hk
  · subst h1; simp [Value.ownBlock] at hk; omega
/-- one element appended to what the call has put together: its cells lie in block g -/
theorem wp_append_elem {P : Program} {o : Oper} {a : Act} {K : Act → World → Prop} {Q : Exit → Act → World → Prop} {w wx : World} (T e : TypeId) (z : Value) (size bytes : Nat) {s x : Operand} {v : Value} {k : Nat} (g : Nat) {L : List Value} (news : List Value)
    (ho : o.op = .call { callee := .builtin .append, args := #[s, x], argTypes := #[T, T] })
    (ht : P.underlying T = some (.slice e)) (hinfo : (P.info? e).map (fun i => (i.zero, i.size, i.bytes)) = some (some z, size, bytes)) (hzs : z.cells.size = size) (hsz : 0 < size) (hby : bytes ≤ 1000)
    (hs : a.eval s = v) (hx : a.eval x = .slice (some ⟨g, 0, none⟩) 1 1) (hown : wx.ownsRow w.heap.size e size v k L) (hext : Ext w wx)
    (hl : news.length = size) (hc : ∀ j u, news[j]? = some u → wx.cell? ⟨g, j, none⟩ = some u) (h1 : ∀ u ∈ news, u.oneCell' = true) (hk : k ≤ 1000000)
    (h : ∀ v' w1, w1.ownsRow w.heap.size e size v' (k + 1) (L ++ news) → Ext w w1 → wx.grownBy w1 v.ownBlock → K (a.put o.dst v') w1) : o.wp P a wx K Q := by
  obtain ⟨i0, hi, hz0, hz1, hz2⟩ := info_parts hinfo
  refine wp_append_own _ s x T ho w.heap.size e i0 z size bytes ht hi hz0 hz1 hz2 hzs hsz v k _ hs hown ⟨g, 0, none⟩ 1 1 news hx (by omega) ?_ h1 ?_ ?_ (Below.size hext) ?_
  · intro j u hj
    have := hc j u hj
    rwa [show ((⟨g, 0, none⟩ : Addr).add j) = ⟨g, j, none⟩ by unfold Addr.add; split <;> simp_all]
  · unfold maxLen; omega
  · have := Nat.mul_le_mul (show k + 1 ≤ 1000001 by omega) hby
    omega
  · intro v' w1 hown' hgrow _
    exact h v' w1 hown' (Below.grown hext hgrow (Below.size hext) (own_base hown)) hgrow
/-- the call has put together these numbers -/
def OwnI (w : World) (B : Nat) (e : TypeId) (v : Value) (k : Nat) (L : List Int) : Prop := w.ownsRow B e 1 v k (L.map (Value.int .i64))
theorem OwnI.nil (w : World) (B : Nat) (e : TypeId) : OwnI w B e (.slice none 0 0) 0 [] := World.ownsRow_nil _ _ _ _
theorem OwnI.alloc {w : World} {B : Nat} {e : TypeId} {v : Value} {k : Nat} {L : List Int} (h : OwnI w B e v k L) (o : Obj) : OwnI (w.alloc o) B e v k L := World.ownsRow.alloc h o
theorem OwnI.drew {w : World} {B : Nat} {e : TypeId} {v : Value} {k : Nat} {L : List Int} (h : OwnI w B e v k L) : OwnI w.drew B e v k L := World.ownsRow.drew h
/-- one number appended -/
theorem wp_append_int {P : Program} {o : Oper} {a : Act} {K : Act → World → Prop} {Q : Exit → Act → World → Prop} {w wx : World} (T e : TypeId) {s x : Operand} {v : Value} {k : Nat} (g : Nat) {L : List Int} (X : Int)
    (ho : o.op = .call { callee := .builtin .append, args := #[s, x], argTypes := #[T, T] })
    (ht : P.underlying T = some (.slice e)) (hinfo : (P.info? e).map (fun i => (i.zero, i.size, i.bytes)) = some (some (.int .i64 0), 1, 8))
    (hs : a.eval s = v) (hx : a.eval x = .slice (some ⟨g, 0, none⟩) 1 1) (hown : OwnI wx w.heap.size e v k L) (hext : Ext w wx) (hc : wx.cell? ⟨g, 0, none⟩ = some (.int .i64 X)) (hk : k ≤ 1000000)
    (h : ∀ v' w1, OwnI w1 w.heap.size e v' (k + 1) (L ++ [X]) → Hid (Ext w w1) → wx.grownBy w1 v.ownBlock → K (a.put o.dst v') w1) : o.wp P a wx K Q := by
  refine wp_append_elem T e (.int .i64 0) 1 8 g [.int .i64 X] ho ht hinfo rfl (by omega) (by omega) hs hx hown hext rfl ?_ ?_ hk ?_
  · intro j u hj
    match j, hj with
    | 0, hj => simp at hj; subst hj; exact hc
  · intro u hu; simp at hu; subst hu; rfl
  · intro v' w1 h1 h2 h3
    exact h v' w1 (by unfold OwnI; rw [List.map_append]; exact h1) h2 h3
theorem wpList_append_int {P : Program} {ops : Array Oper} {rest : List Oper} {o : Oper} {a : Act} {Q : Exit → Act → World → Prop} {w wx : World} (T e : TypeId) {s x : Operand} {v : Value} {k : Nat} (g : Nat) {L : List Int} (X : Int)
    (hgd : o.guard = none) (ho : o.op = .call { callee := .builtin .append, args := #[s, x], argTypes := #[T, T] })
    (ht : P.underlying T = some (.slice e)) (hinfo : (P.info? e).map (fun i => (i.zero, i.size, i.bytes)) = some (some (.int .i64 0), 1, 8))
    (hs : a.eval s = v) (hx : a.eval x = .slice (some ⟨g, 0, none⟩) 1 1) (hown : OwnI wx w.heap.size e v k L) (hext : Ext w wx) (hc : wx.cell? ⟨g, 0, none⟩ = some (.int .i64 X)) (hk : k ≤ 1000000)
    (h : ∀ v' w1, OwnI w1 w.heap.size e v' (k + 1) (L ++ [X]) → Hid (Ext w w1) → wpList P ops Q rest (a.put o.dst v') w1) :
    wpList P ops Q (o :: rest) a wx :=
  wpList_plain hgd fun _ hK => wp_append_int T e g X ho ht hinfo hs hx hown hext hc hk fun v' w' h2 h3 _ => hK _ _ (h v' w' h2 h3)
theorem step_append_int {P : Program} {ops : Array Oper} {o : Oper} {a : Act} {K : Act → World → Prop} {Q : Exit → Act → World → Prop} {E : Prop} {w wx : World} (T e : TypeId) {s x : Operand} {v : Value} {k : Nat} (g : Nat) {L : List Int} (X : Int)
    (hgd : o.guard = none) (ho : o.op = .call { callee := .builtin .append, args := #[s, x], argTypes := #[T, T] })
    (ht : P.underlying T = some (.slice e)) (hinfo : (P.info? e).map (fun i => (i.zero, i.size, i.bytes)) = some (some (.int .i64 0), 1, 8))
    (hs : a.eval s = v) (hx : a.eval x = .slice (some ⟨g, 0, none⟩) 1 1) (hown : OwnI wx w.heap.size e v k L) (hext : Ext w wx) (hc : wx.cell? ⟨g, 0, none⟩ = some (.int .i64 X)) (hk : k ≤ 1000000)
    (h : ∀ v' w1, OwnI w1 w.heap.size e v' (k + 1) (L ++ [X]) → Hid (Ext w w1) → wx.grownBy w1 v.ownBlock → K (a.put o.dst v') w1) :
    if Region.wanted o (yielded ops a.tmps) = true then Oper.wp P o a wx K Q else E := by
  have hw : Region.wanted o (yielded ops a.tmps) = true := by simp [Region.wanted, hgd]
  rw [if_pos hw]
  exact wp_append_int T e g X ho ht hinfo hs hx hown hext hc hk h
theorem run_append_of_nil {P : Program} (w : World) (base : Nat) (t ty e : TypeId) (i : TypeInfo) (size : Nat) (ht : P.underlying t = some (.slice e)) (hi : P.info? e = some i)
    (v : Value) (n : Nat) (xs : List Value) (hown : w.ownsRow base e size v n xs) (c : Nat) : (Builtin.append_ #[t, t] ty #[v, .slice none 0 c]).run P w = .ok v w := by
  rcases hown.2 with ⟨rfl, rfl⟩ | ⟨g, cap, cur, rfl, _, _, hnc, _⟩
  · simp [Builtin.append_, run_underlying ht, sizeOf, typeInfo, hi, Builtin.lenOf, Builtin.firstCells]
  · simp [Builtin.append_, run_underlying ht, sizeOf, typeInfo, hi, Builtin.lenOf, Builtin.firstCells, hnc, storeCells]
/-- a list of numbers appended to what the call has put together -/
theorem wp_append_ints {P : Program} {o : Oper} {a : Act} {K : Act → World → Prop} {Q : Exit → Act → World → Prop} {w wx : World} (T e : TypeId) {s x : Operand} {v : Value} {k n c : Nat} {A : Option Addr} {L xs : List Int}
    (ho : o.op = .call { callee := .builtin .append, args := #[s, x], argTypes := #[T, T] })
    (ht : P.underlying T = some (.slice e)) (hinfo : (P.info? e).map (fun i => (i.zero, i.size, i.bytes)) = some (some (.int .i64 0), 1, 8))
    (hs : a.eval s = v) (hx : a.eval x = .slice A n c) (hown : OwnI wx w.heap.size e v k L) (hext : Ext w wx) (hxs : Ints wx A n xs) (hk : k + n ≤ 1000000)
    (h : ∀ v' w1, OwnI w1 w.heap.size e v' (k + n) (L ++ xs) → Hid (Ext w w1) → K (a.put o.dst v') w1) : o.wp P a wx K Q := by
  obtain ⟨i0, hi, hz0, hz1, hz2⟩ := info_parts hinfo
  have key : ∃ v' w1, (Builtin.append_ #[T, T] o.type #[v, .slice A n c]).run P wx = .ok v' w1 ∧ OwnI w1 w.heap.size e v' (k + n) (L ++ xs) ∧ Ext w w1 := by
    rcases A with _ | ad
    · have hn : n = 0 := by
        rcases Nat.eq_zero_or_pos n with h0 | h0
        · exact h0
        · obtain ⟨b, off, h, _⟩ := hxs.2 h0
          cases h
      subst hn
      have hn : xs = [] := List.eq_nil_of_length_eq_zero hxs.1
      subst hn
      exact ⟨v, wx, run_append_of_nil wx _ T o.type e i0 1 ht hi v k _ hown c, by simpa using hown, hext⟩
    · have hcells : ∀ j u, (xs.map (Value.int .i64))[j]? = some u → wx.cell? (ad.add j) = some u := by
        intro j u hu
        rw [List.getElem?_map] at hu
        obtain ⟨y, hy, rfl⟩ := Option.map_eq_some_iff.1 hu
        have hj : j < n := by rw [← hxs.1]; exact (List.getElem?_eq_some_iff.1 hy).1
        obtain ⟨b, off, hA, _, hc⟩ := hxs.2 (by omega)
        cases hA
        have := hc j hj
        rw [show ((⟨b, off, none⟩ : Addr).add j) = ⟨b, off + j, none⟩ by unfold Addr.add; split <;> simp_all, this, List.getD_eq_getElem?_getD, hy]
        rfl
      obtain ⟨v', w1, hrun, h2, h3, _⟩ := run_append_own_at (P := P) wx w.heap.size T o.type e i0 (.int .i64 0) 1 8 ht hi hz0 hz1 hz2 rfl (by omega) v k _ hown ad n c (xs.map (Value.int .i64)) (by simp [hxs.1]) hcells
        (fun u hu => by obtain ⟨y, _, rfl⟩ := List.mem_map.1 hu; rfl) (by unfold maxLen; omega) (by omega) (Below.size hext)
      exact ⟨v', w1, hrun, by unfold OwnI; rw [List.map_append]; exact h2, Below.grown hext h3 (Below.size hext) (own_base hown)⟩
  obtain ⟨v', w1, hrun, h2, h3⟩ := key
  unfold Oper.wp execOp
  simp only [ho, resolve, invoke, builtin, Sem.run_bind, Sem.run_pure, Result.andThen_ok, List.map_toArray, List.map_cons, List.map_nil, hs, hx, hrun]
  exact h v' w1 h2 h3
theorem wpList_append_ints {P : Program} {ops : Array Oper} {rest : List Oper} {o : Oper} {a : Act} {Q : Exit → Act → World → Prop} {w wx : World} (T e : TypeId) {s x : Operand} {v : Value} {k n c : Nat} {A : Option Addr} {L xs : List Int}
    (hgd : o.guard = none) (ho : o.op = .call { callee := .builtin .append, args := #[s, x], argTypes := #[T, T] })
    (ht : P.underlying T = some (.slice e)) (hinfo : (P.info? e).map (fun i => (i.zero, i.size, i.bytes)) = some (some (.int .i64 0), 1, 8))
    (hs : a.eval s = v) (hx : a.eval x = .slice A n c) (hown : OwnI wx w.heap.size e v k L) (hext : Ext w wx) (hxs : Ints wx A n xs) (hk : k + n ≤ 1000000)
    (h : ∀ v' w1, OwnI w1 w.heap.size e v' (k + n) (L ++ xs) → Hid (Ext w w1) → wpList P ops Q rest (a.put o.dst v') w1) : wpList P ops Q (o :: rest) a wx :=
  wpList_plain hgd fun _ hK => wp_append_ints T e ho ht hinfo hs hx hown hext hxs hk fun v' w' h2 h3 => hK _ _ (h v' w' h2 h3)
theorem OwnI.empty (w : World) (e : TypeId) : OwnI (w.alloc (.cells #[] e)) w.heap.size e (.slice (some ⟨w.heap.size, 0, none⟩) 0 0) 0 [] :=
  ⟨rfl, .inr ⟨w.heap.size, 0, #[], rfl, Nat.le_refl _, heap_alloc_new w _, Nat.le_refl _, by simp, rfl, rfl⟩⟩
/-- what is put together is a slice that reads as the list -/
theorem own_ints {w : World} {B k : Nat} {e : TypeId} {v : Value} {xs : List Int} (h : OwnI w B e v k xs) : ∃ A c, v = .slice A k c ∧ Ints w A k xs := by
  rcases h.2 with ⟨h1, h2⟩ | ⟨g, cap, cur, h1, _⟩
  · subst h2
    subst h1
    exact ⟨none, 0, rfl, Ints.of_own h⟩
  · subst h1
    exact ⟨_, _, rfl, Ints.of_own h⟩
theorem map_range_succ {α : Type} (f : Nat → α) (k : Nat) : (List.range (k + 1)).map f = (List.range k).map f ++ [f k] := by
  rw [List.range_succ, List.map_append]; rfl
end Go.Proofs.YtfbfkoeaihknoaaGreatDoor
/- Slices whose elements are some cells each, for the walks of this claim. -/
namespace Go.Proofs.YtfbfkoeaihknoaaGreatDoor
set_option maxRecDepth 100000
open Go.RowKit Go.ChangeShapes Go.WideShapes

/-- how an element lies in memory -/
structure Shp (α : Type) where
  size : Nat
  cells : α → List Value
  pos : 0 < size
  len : ∀ x, (cells x).length = size
  one : ∀ x u, u ∈ cells x → u.oneCell' = true

section
variable {α : Type} {S : Shp α}
theorem flat_len (xs : List α) : (xs.flatMap S.cells).length = xs.length * S.size := by
  induction xs with
  | nil => simp
  | cons x xs ih => rw [List.flatMap_cons, List.length_append, ih, S.len, List.length_cons, Nat.add_mul, Nat.one_mul, Nat.add_comm]
theorem flat_get : ∀ (xs : List α) (k i : Nat), i < S.size → (xs.flatMap S.cells)[k * S.size + i]? = xs[k]?.bind (fun x => (S.cells x)[i]?) := by
  intro xs
  induction xs with
  | nil => intro k i _; simp
  | cons x xs ih =>
    intro k i hi
    rw [List.flatMap_cons]
    cases k with
    | zero => rw [Nat.zero_mul, Nat.zero_add, List.getElem?_append_left (by rw [S.len]; exact hi)]; rfl
    | succ k =>
      have e : (k + 1) * S.size + i = S.size + (k * S.size + i) := by rw [Nat.add_mul, Nat.one_mul]; omega
      rw [List.getElem?_append_right (by rw [S.len, e]; omega), S.len, e, Nat.add_sub_cancel_left, ih k i hi]; rfl

/-- the slice with this address and length reads as this list; its cells lie in memory that is there -/
def Vec (S : Shp α) (w : World) (A : Option Addr) (n : Nat) (xs : List α) : Prop :=
  xs.length = n ∧ (0 < n → ∃ b off, A = some ⟨b, off, none⟩ ∧ b < w.heap.size ∧ ∀ k x, xs[k]? = some x → ∀ i u, (S.cells x)[i]? = some u → w.cell? ⟨b, off + (k * S.size + i), none⟩ = some u)
variable {w w' : World} {A : Option Addr} {n : Nat} {xs : List α}
theorem Vec.len (h : Vec S w A n xs) : xs.length = n := h.1
theorem Vec.none_ (S : Shp α) (w : World) (A : Option Addr) : Vec S w A 0 [] := ⟨rfl, fun h => absurd h (by omega)⟩
theorem Vec.keep (h : Vec S w A n xs) (hz : w.heap.size ≤ w'.heap.size) (hk : ∀ b off, A = some ⟨b, off, none⟩ → ∀ o, w'.cell? ⟨b, o, none⟩ = w.cell? ⟨b, o, none⟩) : Vec S w' A n xs :=
  ⟨h.1, fun hn => by
    obtain ⟨b, off, e, hb, hc⟩ := h.2 hn
    exact ⟨b, off, e, by omega, fun k x hx i u hu => (hk b off e _).trans (hc k x hx i u hu)⟩⟩
theorem Vec.ext (h : Vec S w A n xs) (hb : Ext w w') : Vec S w' A n xs :=
  ⟨h.1, fun hn => by
    obtain ⟨b, off, e, hlt, hc⟩ := h.2 hn
    exact ⟨b, off, e, Nat.lt_of_lt_of_le hlt (Below.size hb), fun k x hx i u hu => (Below.cell (p := ⟨b, off + (k * S.size + i), none⟩) hb hlt).trans (hc k x hx i u hu)⟩⟩
theorem Vec.but {g : Nat} (h : Vec S w A n xs) (hb : But (some g) w w') (hne : ∀ off, 0 < n → A ≠ some ⟨g, off, none⟩) : Vec S w' A n xs :=
  ⟨h.1, fun hn => by
    obtain ⟨b, off, e, hlt, hc⟩ := h.2 hn
    have hg : some b ≠ some g := by rintro e2; cases e2; exact hne off hn e
    exact ⟨b, off, e, Nat.lt_of_lt_of_le hlt hb.size, fun k x hx i u hu => (hb.cell (p := ⟨b, off + (k * S.size + i), none⟩) hlt hg).trans (hc k x hx i u hu)⟩⟩
theorem spot_none {a : Addr} {u : Value} (h : w.cell? a = some u) : a.spot = none := by
  obtain ⟨b, o, s⟩ := a
  cases s with
  | none => rfl
  | some s =>
    simp only [World.cell?] at h
    split at h <;> simp at h
theorem add_plain (b off j : Nat) : ((⟨b, off, none⟩ : Addr).add j) = ⟨b, off + j, none⟩ := by
  unfold Addr.add; split <;> simp_all
theorem Vec.of_add (hl : xs.length = n) (h : 0 < n → ∃ ad, A = some ad ∧ ad.block < w.heap.size ∧ ∀ k x, xs[k]? = some x → ∀ i u, (S.cells x)[i]? = some u → w.cell? (ad.add (k * S.size + i)) = some u) : Vec S w A n xs := by
  refine ⟨hl, fun hn => ?_⟩
  obtain ⟨ad, e, hb, hc⟩ := h hn
  obtain ⟨x0, h0⟩ : ∃ x, xs[0]? = some x := ⟨xs[0]'(by omega), List.getElem?_eq_getElem (by omega)⟩
  obtain ⟨u0, hu0⟩ : ∃ u, (S.cells x0)[0]? = some u := ⟨(S.cells x0)[0]'(by rw [S.len]; exact S.pos), List.getElem?_eq_getElem (by rw [S.len]; exact S.pos)⟩
  have h1 := hc 0 x0 h0 0 u0 hu0
  rw [show ad.add (0 * S.size + 0) = ad by simp [Addr.add]] at h1
  have hs := spot_none h1
  obtain ⟨b, off, spot⟩ := ad
  obtain rfl : spot = none := hs
  exact ⟨b, off, e, hb, fun k x hx i u hu => by rw [← add_plain]; exact hc k x hx i u hu⟩
/-- what the call itself has put together -/
def OwnV (S : Shp α) (w : World) (B : Nat) (e : TypeId) (v : Value) (k : Nat) (L : List α) : Prop := w.ownsRow B e S.size v k (L.flatMap S.cells)
theorem OwnV.nil (S : Shp α) (w : World) (B : Nat) (e : TypeId) : OwnV S w B e (.slice none 0 0) 0 [] := World.ownsRow_nil _ _ _ _
theorem OwnV.alloc {B : Nat} {e : TypeId} {v : Value} {k : Nat} {L : List α} (h : OwnV S w B e v k L) (o : Obj) : OwnV S (w.alloc o) B e v k L := World.ownsRow.alloc h o
theorem OwnV.drew {B : Nat} {e : TypeId} {v : Value} {k : Nat} {L : List α} (h : OwnV S w B e v k L) : OwnV S w.drew B e v k L := World.ownsRow.drew h
theorem OwnV.drewN {B : Nat} {e : TypeId} {v : Value} {k : Nat} {L : List α} (h : OwnV S w B e v k L) (n : Nat) : OwnV S (w.drewN n) B e v k L := h
theorem OwnV.ext {B : Nat} {e : TypeId} {v : Value} {k : Nat} {L : List α} (h : OwnV S w B e v k L) (hb : Ext w w') : OwnV S w' B e v k L :=
  World.ownsRow.kept h (But.of_ext hb none) (by cases v.ownBlock <;> simp)
theorem OwnV.len {B : Nat} {e : TypeId} {v : Value} {k : Nat} {L : List α} (h : OwnV S w B e v k L) : L.length = k := by
  have := h.1
  rw [flat_len] at this
  exact Nat.eq_of_mul_eq_mul_right S.pos this
theorem Vec.of_own {B : Nat} {e : TypeId} {k c : Nat} {A : Option Addr} {L : List α} (h : OwnV S w B e (.slice A k c) k L) : Vec S w A k L := by
  refine ⟨h.len, fun hn => ?_⟩
  obtain ⟨g, cap, hv, _, hlt⟩ := World.ownsRow.form h hn
  simp only [Value.slice.injEq, true_and] at hv
  obtain ⟨hA, hc⟩ := hv
  subst hA
  refine ⟨g, 0, rfl, hlt, fun j x hx i u hu => ?_⟩
  have hi : i < S.size := by rw [← S.len x]; exact (List.getElem?_eq_some_iff.1 hu).1
  have hj : j < k := by rw [← h.len]; exact (List.getElem?_eq_some_iff.1 hx).1
  have hb : j * S.size + i < k * S.size := by
    have := Nat.mul_le_mul_right S.size (show j + 1 ≤ k by omega)
    rw [Nat.add_mul, Nat.one_mul] at this
    omega
  rw [Nat.zero_add, World.ownsRow.cellAt h _ hb, flat_get _ _ _ hi, hx]
  exact hu
theorem own_vec {B k : Nat} {e : TypeId} {v : Value} {L : List α} (h : OwnV S w B e v k L) : ∃ A c, v = .slice A k c ∧ Vec S w A k L := by
  rcases h.2 with ⟨h1, h2⟩ | ⟨g, cap, cur, h1, _⟩
  · subst h2
    subst h1
    exact ⟨none, 0, rfl, Vec.of_own h⟩
  · subst h1
    exact ⟨_, _, rfl, Vec.of_own h⟩
section
variable {P : Program} {ops : Array Oper} {rest : List Oper} {o : Oper} {a : Act} {K : Act → World → Prop} {Q : Exit → Act → World → Prop} {E : Prop} {wx : World}
/-- one element appended: its cells lie in block g -/
theorem wp_append_vec (T e : TypeId) (z : Value) (bytes : Nat) {s x : Operand} {v : Value} {k : Nat} (g : Nat) {L : List α} (X : α)
    (ho : o.op = .call { callee := .builtin .append, args := #[s, x], argTypes := #[T, T] })
    (ht : P.underlying T = some (.slice e)) (hinfo : (P.info? e).map (fun i => (i.zero, i.size, i.bytes)) = some (some z, S.size, bytes)) (hzs : z.cells.size = S.size) (hby : bytes ≤ 1000)
    (hs : a.eval s = v) (hx : a.eval x = .slice (some ⟨g, 0, none⟩) 1 1) (hown : OwnV S wx w.heap.size e v k L) (hext : Ext w wx)
    (hc : ∀ j u, (S.cells X)[j]? = some u → wx.cell? ⟨g, j, none⟩ = some u) (hk : k ≤ 1000000)
    (h : ∀ v' w1, OwnV S w1 w.heap.size e v' (k + 1) (L ++ [X]) → Hid (Ext w w1) → wx.grownBy w1 v.ownBlock → K (a.put o.dst v') w1) : o.wp P a wx K Q := by
  refine wp_append_elem T e z S.size bytes g (S.cells X) ho ht hinfo hzs S.pos hby hs hx hown hext (S.len X) hc (S.one X) hk ?_
  intro v' w1 h1 h2 h3
  exact h v' w1 (by unfold OwnV; rw [List.flatMap_append]; simpa using h1) h2 h3
theorem wpList_append_vec (T e : TypeId) (z : Value) (bytes : Nat) {s x : Operand} {v : Value} {k : Nat} (g : Nat) {L : List α} (X : α)
    (hgd : o.guard = none) (ho : o.op = .call { callee := .builtin .append, args := #[s, x], argTypes := #[T, T] })
    (ht : P.underlying T = some (.slice e)) (hinfo : (P.info? e).map (fun i => (i.zero, i.size, i.bytes)) = some (some z, S.size, bytes)) (hzs : z.cells.size = S.size) (hby : bytes ≤ 1000)
    (hs : a.eval s = v) (hx : a.eval x = .slice (some ⟨g, 0, none⟩) 1 1) (hown : OwnV S wx w.heap.size e v k L) (hext : Ext w wx)
    (hc : ∀ j u, (S.cells X)[j]? = some u → wx.cell? ⟨g, j, none⟩ = some u) (hk : k ≤ 1000000)
    (h : ∀ v' w1, OwnV S w1 w.heap.size e v' (k + 1) (L ++ [X]) → Hid (Ext w w1) → wpList P ops Q rest (a.put o.dst v') w1) : wpList P ops Q (o :: rest) a wx :=
  wpList_plain hgd fun _ hK => wp_append_vec T e z bytes g X ho ht hinfo hzs hby hs hx hown hext hc hk fun v' w' h2 h3 _ => hK _ _ (h v' w' h2 h3)
theorem step_append_vec (T e : TypeId) (z : Value) (bytes : Nat) {s x : Operand} {v : Value} {k : Nat} (g : Nat) {L : List α} (X : α)
    (hgd : o.guard = none) (ho : o.op = .call { callee := .builtin .append, args := #[s, x], argTypes := #[T, T] })
    (ht : P.underlying T = some (.slice e)) (hinfo : (P.info? e).map (fun i => (i.zero, i.size, i.bytes)) = some (some z, S.size, bytes)) (hzs : z.cells.size = S.size) (hby : bytes ≤ 1000)
    (hs : a.eval s = v) (hx : a.eval x = .slice (some ⟨g, 0, none⟩) 1 1) (hown : OwnV S wx w.heap.size e v k L) (hext : Ext w wx)
    (hc : ∀ j u, (S.cells X)[j]? = some u → wx.cell? ⟨g, j, none⟩ = some u) (hk : k ≤ 1000000)
    (h : ∀ v' w1, OwnV S w1 w.heap.size e v' (k + 1) (L ++ [X]) → Hid (Ext w w1) → wx.grownBy w1 v.ownBlock → K (a.put o.dst v') w1) :
    if Region.wanted o (yielded ops a.tmps) = true then Oper.wp P o a wx K Q else E := by
  have hw : Region.wanted o (yielded ops a.tmps) = true := by simp [Region.wanted, hgd]
  rw [if_pos hw]
  exact wp_append_vec T e z bytes g X ho ht hinfo hzs hby hs hx hown hext hc hk h
theorem Vec.cells_at {ad : Addr} (hxs : Vec S wx (some ad) n xs) : ∀ j u, (xs.flatMap S.cells)[j]? = some u → wx.cell? (ad.add j) = some u := by
  intro j u hu
  have hj := (List.getElem?_eq_some_iff.1 hu).1
  rw [flat_len, hxs.1] at hj
  have hn : 0 < n := Nat.pos_of_ne_zero (by rintro rfl; rw [Nat.zero_mul] at hj; exact absurd hj (Nat.not_lt_zero _))
  obtain ⟨b, off, hA, _, hc⟩ := hxs.2 hn
  cases hA
  have e : j = j / S.size * S.size + j % S.size := by rw [Nat.mul_comm]; exact (Nat.div_add_mod j S.size).symm
  have hi := Nat.mod_lt j S.pos
  rw [e, flat_get _ _ _ hi] at hu
  obtain ⟨x, hx, hu⟩ := Option.bind_eq_some_iff.1 hu
  rw [add_plain, e]
  exact hc _ x hx _ u hu
/-- a list appended to what the call has put together -/
theorem wp_append_vecs (T e : TypeId) (z : Value) (bytes : Nat) {s x : Operand} {v : Value} {k m c : Nat} {L : List α}
    (ho : o.op = .call { callee := .builtin .append, args := #[s, x], argTypes := #[T, T] })
    (ht : P.underlying T = some (.slice e)) (hinfo : (P.info? e).map (fun i => (i.zero, i.size, i.bytes)) = some (some z, S.size, bytes)) (hzs : z.cells.size = S.size) (hby : bytes ≤ 1000)
    (hs : a.eval s = v) (hx : a.eval x = .slice A m c) (hown : OwnV S wx w.heap.size e v k L) (hext : Ext w wx) (hxs : Vec S wx A m xs) (hk : k + m ≤ 1000000)
    (h : ∀ v' w1, OwnV S w1 w.heap.size e v' (k + m) (L ++ xs) → Hid (Ext w w1) → wx.grownBy w1 v.ownBlock → K (a.put o.dst v') w1) : o.wp P a wx K Q := by
  obtain ⟨i0, hi, hz0, hz1, hz2⟩ := info_parts hinfo
  have key : ∃ v' w1, (Builtin.append_ #[T, T] o.type #[v, .slice A m c]).run P wx = .ok v' w1 ∧ OwnV S w1 w.heap.size e v' (k + m) (L ++ xs) ∧ Ext w w1 ∧ wx.grownBy w1 v.ownBlock := by
    rcases A with _ | ad
    · have hn : m = 0 := by
        rcases Nat.eq_zero_or_pos m with h0 | h0
        · exact h0
        · obtain ⟨b, off, h, _⟩ := hxs.2 h0
          cases h
      subst hn
      have hn : xs = [] := List.eq_nil_of_length_eq_zero hxs.1
      subst hn
      exact ⟨v, wx, run_append_of_nil wx _ T o.type e i0 S.size ht hi v k _ hown c, by simpa using hown, hext, World.grownBy.refl wx _⟩
    · obtain ⟨v', w1, hrun, h2, h3, _⟩ := run_append_own_at (P := P) wx w.heap.size T o.type e i0 z S.size bytes ht hi hz0 hz1 hz2 hzs S.pos v k _ hown ad m c (xs.flatMap S.cells) (by rw [flat_len, hxs.1]) hxs.cells_at
        (fun u hu => by obtain ⟨y, _, hy⟩ := List.mem_flatMap.1 hu; exact S.one y u hy) (by unfold maxLen; omega) (by have := Nat.mul_le_mul (show k + m ≤ 1000000 by omega) hby; omega) (Below.size hext)
      exact ⟨v', w1, hrun, by unfold OwnV; rw [List.flatMap_append]; exact h2, Below.grown hext h3 (Below.size hext) (own_base hown), h3⟩
  obtain ⟨v', w1, hrun, h2, h3, h4⟩ := key
  unfold Oper.wp execOp
  simp only [ho, resolve, invoke, builtin, Sem.run_bind, Sem.run_pure, Result.andThen_ok, List.map_toArray, List.map_cons, List.map_nil, hs, hx, hrun]
  exact h v' w1 h2 h3 h4
theorem wpList_append_vecs (T e : TypeId) (z : Value) (bytes : Nat) {s x : Operand} {v : Value} {k m c : Nat} {L : List α}
    (hgd : o.guard = none) (ho : o.op = .call { callee := .builtin .append, args := #[s, x], argTypes := #[T, T] })
    (ht : P.underlying T = some (.slice e)) (hinfo : (P.info? e).map (fun i => (i.zero, i.size, i.bytes)) = some (some z, S.size, bytes)) (hzs : z.cells.size = S.size) (hby : bytes ≤ 1000)
    (hs : a.eval s = v) (hx : a.eval x = .slice A m c) (hown : OwnV S wx w.heap.size e v k L) (hext : Ext w wx) (hxs : Vec S wx A m xs) (hk : k + m ≤ 1000000)
    (h : ∀ v' w1, OwnV S w1 w.heap.size e v' (k + m) (L ++ xs) → Hid (Ext w w1) → wpList P ops Q rest (a.put o.dst v') w1) : wpList P ops Q (o :: rest) a wx :=
  wpList_plain hgd fun _ hK => wp_append_vecs T e z bytes ho ht hinfo hzs hby hs hx hown hext hxs hk fun v' w' h2 h3 _ => hK _ _ (h v' w' h2 h3)
end
theorem Vec.lit (w : World) (L : List α) (t : TypeId) : Vec S (w.alloc (.cells (L.flatMap S.cells).toArray t)) (some ⟨w.heap.size, 0, none⟩) L.length L := by
  refine ⟨rfl, fun hn => ⟨w.heap.size, 0, rfl, by simp, fun k x hx i u hu => ?_⟩⟩
  have hi : i < S.size := by rw [← S.len x]; exact (List.getElem?_eq_some_iff.1 hu).1
  have h : (w.alloc (.cells (L.flatMap S.cells).toArray t)).heap[w.heap.size]? = some (.cells (L.flatMap S.cells).toArray t) := heap_alloc_new w _
  rw [Nat.zero_add, cell_of_row _ w.heap.size _ _ t (0, 0) h, List.getElem?_toArray, flat_get _ _ _ hi, hx]
  exact hu
theorem Vec.lit2 {L : List α} {t : TypeId} {g n : Nat} {cs : Array Value} (hg : g = w.heap.size) (hc : cs = (L.flatMap S.cells).toArray) (hn : n = L.length) : Vec S (w.alloc (.cells cs t)) (some ⟨g, 0, none⟩) n L := by
  subst hg; subst hc; subst hn; exact Vec.lit w L t
end

section
variable {α : Type} {S : Shp α} {H : Type} {enc : TypeId × Value → H} {P : Program} {w : World} {base : Nat} {spare : Nat → Bool} {held : Bool}
/-- how a slice that comes in is opened -/
theorem open_vecQ {Q : α → Prop} {r : Reach} {b0 : Nat} {t e : TypeId} {v : Value} {d : DataW H} {p : List MemPlace} (ht : P.underlying t = some (.slice e)) (hC : P.cellsOf e = S.size)
    (hR : ∀ (fuel : Nat) (cs : List Value) (y : DataW H × List MemPlace), cs.length = S.size → DataW.trod enc P w base spare held fuel e cs = some y → ∃ x, cs = S.cells x ∧ Q x)
    (hv : Value.okWide P w r b0 t v) (h : DataW.Trod enc P w base spare held t v d p) : ∃ (A : Option Addr) (n c : Nat) (l : List α), v = .slice A n c ∧ Vec S w A n l ∧ n ≤ maxLen ∧ ∀ x ∈ l, Q x := by
  obtain ⟨a0, len, cap, rfl⟩ := okWide_slice ht hv
  obtain ⟨fuel, hf⟩ := h
  rcases Go.Deep.open_slice ht hf with ⟨hcs, _⟩ | ⟨a, len', cap', m, n, D, Pl, hcs, _, hl, hm, hmm, _, hi⟩
  · simp only [Value.cells, List.cons.injEq, Value.slice.injEq, and_true] at hcs
    obtain ⟨rfl, rfl, rfl⟩ := hcs
    exact ⟨none, 0, 0, [], rfl, Vec.none_ _ _ _, by unfold maxLen; omega, fun x hx => by cases hx⟩
  · simp only [Value.cells, List.cons.injEq, Value.slice.injEq, and_true] at hcs
    obtain ⟨rfl, rfl, rfl⟩ := hcs
    have hmn : len ≤ m := by rw [hmm]; split <;> omega
    have key : ∀ k, k ≤ m → ∃ l : List α, l.length = k ∧ (∀ x ∈ l, Q x) ∧ ∀ i x, l[i]? = some x → ∀ j u, (S.cells x)[j]? = some u → w.cell? (a.add (i * S.size + j)) = some u := by
      intro k
      induction k with
      | zero => intro _; exact ⟨[], rfl, fun x hx => (by cases hx), fun i x hx => by simp at hx⟩
      | succ k ih =>
        intro hk
        obtain ⟨l, hl1, hlq, hl2⟩ := ih (by omega)
        obtain ⟨cs', hc1, hc2⟩ := hi k (by omega)
        rw [hC] at hc1
        obtain ⟨_, hc3, hc4⟩ := World.cells?_some hc1
        obtain ⟨x, rfl, hqx⟩ := hR n cs' _ hc3 hc2
        refine ⟨l ++ [x], by simp [hl1], fun z hz => (by
          rcases List.mem_append.1 hz with h | h
          · exact hlq z h
          · simp at h; subst h; exact hqx), fun i y hy j u hu => ?_⟩
        rcases Nat.lt_or_ge i k with hik | hik
        · rw [List.getElem?_append_left (by omega)] at hy
          exact hl2 i y hy j u hu
        · rw [List.getElem?_append_right (by omega), hl1] at hy
          obtain ⟨h0, h1⟩ := List.getElem?_eq_some_iff.1 hy
          have hik : i = k := by simp at h0; omega
          subst hik
          simp at h1
          subst h1
          have hj : j < S.size := by rw [← S.len x]; exact (List.getElem?_eq_some_iff.1 hu).1
          rw [← Go.Deep.add_add, hc4 j hj]
          exact hu
    obtain ⟨l, hl1, hlq, hl2⟩ := key len hmn
    refine ⟨some a, len, cap, l, rfl, Vec.of_add hl1 fun hn => ⟨a, rfl, ?_, hl2⟩, by omega, hlq⟩
    obtain ⟨x0, h0⟩ : ∃ x, l[0]? = some x := ⟨l[0]'(by omega), List.getElem?_eq_getElem (by omega)⟩
    obtain ⟨u0, hu0⟩ : ∃ u, (S.cells x0)[0]? = some u := ⟨(S.cells x0)[0]'(by rw [S.len]; exact S.pos), List.getElem?_eq_getElem (by rw [S.len]; exact S.pos)⟩
    have h1 := World.block_lt_of_cell? w _ (hl2 0 x0 h0 0 u0 hu0)
    simpa [Addr.add] using h1
theorem open_vec {r : Reach} {b0 : Nat} {t e : TypeId} {v : Value} {d : DataW H} {p : List MemPlace} (ht : P.underlying t = some (.slice e)) (hC : P.cellsOf e = S.size)
    (hR : ∀ (fuel : Nat) (cs : List Value) (y : DataW H × List MemPlace), cs.length = S.size → DataW.trod enc P w base spare held fuel e cs = some y → ∃ x, cs = S.cells x)
    (hv : Value.okWide P w r b0 t v) (h : DataW.Trod enc P w base spare held t v d p) : ∃ (A : Option Addr) (n c : Nat) (l : List α), v = .slice A n c ∧ Vec S w A n l ∧ n ≤ maxLen := by
  obtain ⟨A, n, c, l, h1, h2, h3, _⟩ := open_vecQ (Q := fun _ => True) ht hC (fun f cs y hl hy => by obtain ⟨x, hx⟩ := hR f cs y hl hy; exact ⟨x, hx, trivial⟩) hv h
  exact ⟨A, n, c, l, h1, h2, h3⟩
end
end Go.Proofs.YtfbfkoeaihknoaaGreatDoor
/- Lists of stitches in memory. -/
namespace Go.Proofs.YtfbfkoeaihknoaaGreatDoor
set_option maxRecDepth 100000
open Go.RowKit Go.ChangeShapes Go.WideShapes Go.Joins
/-- the cells of a stitch -/
def stc (s : St) : List Value := [.int .u8 s.k, .bool s.p, .int .i64 s.a, .int .i64 s.b]
def shSt : Shp St where
  size := 4
  cells := stc
  pos := by omega
  len _ := rfl
  one p u h := by
    simp [stc] at h
    rcases h with h | h | h | h <;> subst h <;> rfl
theorem info_st : (Tryz.prog.info? 39).map (fun i => (i.zero, i.size, i.bytes)) = some (some (.agg #[.int .u8 0, .bool false, .int .i64 0, .int .i64 0]), 4, 24) := by kernel_rfl
theorem Sts.all {w : World} {A : Option Addr} {n : Nat} {xs : List St} (h : Vec shSt w A n xs) (hn : 0 < n) :
    ∃ b off, A = some ⟨b, off, none⟩ ∧ b < w.heap.size ∧ ∀ k, k < n → w.cell? ⟨b, off + k * 4, none⟩ = some (.int .u8 (xs.getD k st0).k) ∧ w.cell? ⟨b, off + k * 4 + 1, none⟩ = some (.bool (xs.getD k st0).p) ∧
      w.cell? ⟨b, off + k * 4 + 2, none⟩ = some (.int .i64 (xs.getD k st0).a) ∧ w.cell? ⟨b, off + k * 4 + 3, none⟩ = some (.int .i64 (xs.getD k st0).b) := by
  obtain ⟨b, off, e, hb, hc⟩ := h.2 hn
  have hl := h.1
  refine ⟨b, off, e, hb, fun k hk => ?_⟩
  have hx := getSt (l := xs) (k := k) (by omega)
  exact ⟨hc k _ hx 0 _ rfl, hc k _ hx 1 _ rfl, hc k _ hx 2 _ rfl, hc k _ hx 3 _ rfl⟩
theorem run_equalIn_st (x : Int) (y : Bool) (z t x' : Int) (y' : Bool) (z' t' : Int) (w : World) :
    (Op.equalIn 10000 39 (.agg #[.int .u8 x, .bool y, .int .i64 z, .int .i64 t]) (.agg #[.int .u8 x', .bool y', .int .i64 z', .int .i64 t'])).run Tryz.prog w = .ok (x == x' && (y == y' && (z == z' && t == t'))) w := by
  rw [run_equalIn_agg (P := Tryz.prog) w 9999 39 _ _ (by kernel_rfl) (by kernel_rfl)]
  simp [Op.eqFields, Program.fieldsOf, Tryz.underlying39, go_sem, part, Tryz.underlying5, Tryz.underlying4, Tryz.underlying3]
  by_cases h1 : x = x' <;> by_cases h2 : y = y' <;> by_cases h3 : z = z' <;> by_cases h4 : t = t' <;> simp [h1, h2, h3, h4]
theorem run_st_ne {x : Int} {y : Bool} {z t x' : Int} {y' : Bool} {z' t' : Int} (h : ¬ (⟨x, y, z, t⟩ : St) = ⟨x', y', z', t'⟩) (w : World) :
    (binOp .neq 39 (.agg #[.int .u8 x, .bool y, .int .i64 z, .int .i64 t]) (.agg #[.int .u8 x', .bool y', .int .i64 z', .int .i64 t'])).run Tryz.prog w = .ok (.bool true) w := by
  rw [run_neq_struct, run_equalIn_st]
  have : (x == x' && (y == y' && (z == z' && t == t'))) = false := by
    cases e : (x == x' && (y == y' && (z == z' && t == t')))
    · rfl
    · simp at e
      obtain ⟨rfl, rfl, rfl, rfl⟩ := e
      exact absurd rfl h
  rw [this]
  rfl
theorem run_st_eq {x : Int} {y : Bool} {z t x' : Int} {y' : Bool} {z' t' : Int} (h : ¬ (⟨x, y, z, t⟩ : St) = ⟨x', y', z', t'⟩) (w : World) :
    (binOp .eql 39 (.agg #[.int .u8 x, .bool y, .int .i64 z, .int .i64 t]) (.agg #[.int .u8 x', .bool y', .int .i64 z', .int .i64 t'])).run Tryz.prog w = .ok (.bool false) w := by
  rw [run_eql_struct, run_equalIn_st]
  have : (x == x' && (y == y' && (z == z' && t == t'))) = false := by
    cases e : (x == x' && (y == y' && (z == z' && t == t')))
    · rfl
    · simp at e
      obtain ⟨rfl, rfl, rfl, rfl⟩ := e
      exact absurd rfl h
  rw [this]
  rfl
section
variable {H : Type} {enc : TypeId × Value → H} {w : World} {base : Nat} {spare : Nat → Bool} {held : Bool}
theorem open_sts_arg {r : Reach} {b0 : Nat} {v : Value} {d : DataW H} {p : List MemPlace} (hv : Value.okWide Tryz.prog w r b0 35 v) (h : DataW.Trod enc Tryz.prog w base spare held 35 v d p) :
    ∃ (A : Option Addr) (n c : Nat) (l : List St), v = .slice A n c ∧ Vec shSt w A n l ∧ n ≤ maxLen ∧ Bytes l := by
  suffices hs : ∃ (A : Option Addr) (n c : Nat) (l : List St), v = .slice A n c ∧ Vec shSt w A n l ∧ n ≤ maxLen ∧ ∀ s ∈ l, 0 ≤ s.k ∧ s.k ≤ 255 by
    obtain ⟨A, n, c, l, h1, h2, h3, h4⟩ := hs
    exact ⟨A, n, c, l, h1, h2, h3, bytes_of h4⟩
  refine open_vecQ Tryz.underlying35 (by kernel_rfl) (fun fuel cs y hl hy => ?_) hv h
  obtain ⟨xs, m, _, _, _, hxl, hel⟩ := DataW.trod_struct Tryz.underlying39 hy
  match cs, hl with
  | [c0, c1, c2, c3], _ =>
    match xs, hxl with
    | [y0, y1, y2, y3], _ =>
      have C0 : Tryz.prog.cellsOf 5 = 1 := by kernel_rfl
      have C1 : Tryz.prog.cellsOf 4 = 1 := by kernel_rfl
      have C2 : Tryz.prog.cellsOf 3 = 1 := by kernel_rfl
      have h0 := hel 0 _ rfl
      have h1 := hel 1 _ rfl
      have h2 := hel 2 _ rfl
      have h3 := hel 3 _ rfl
      simp [C0, C1, C2] at h0 h1 h2 h3
      obtain ⟨n0, e0, _, wf0⟩ := DataW.trod_int Tryz.underlying5 h0
      have hwf := bounds_u8 wf0
      obtain ⟨n1, e1, _⟩ := DataW.trod_bool Tryz.underlying4 h1
      obtain ⟨n2, e2, _⟩ := DataW.trod_int Tryz.underlying3 h2
      obtain ⟨n3, e3, _⟩ := DataW.trod_int Tryz.underlying3 h3
      simp at e0 e1 e2 e3
      subst e0
      subst e1
      subst e2
      subst e3
      exact ⟨⟨n0, n1, n2, n3⟩, rfl, hwf⟩
theorem open_st_arg {r : Reach} {b0 : Nat} {v : Value} {d : DataW H} {p : List MemPlace} (hv : Value.okWide Tryz.prog w r b0 39 v) (h : DataW.Trod enc Tryz.prog w base spare held 39 v d p) :
    ∃ (k : Int) (p : Bool) (a b : Int), v = .agg #[.int .u8 k, .bool p, .int .i64 a, .int .i64 b] ∧ 0 ≤ k ∧ k ≤ 255 := by
  obtain ⟨v0, v1, v2, v3, y0, y1, y2, y3, n, rfl, -, -, h0, h1, h2, h3⟩ := open_agg4 Tryz.underlying39 (by kernel_rfl) (by kernel_rfl) hv h
  obtain ⟨a, e0, -, wf0⟩ := DataW.trod_int Tryz.underlying5 h0
  have hwf := bounds_u8 wf0
  obtain ⟨b, e1, -⟩ := DataW.trod_bool Tryz.underlying4 h1
  obtain ⟨c, e2, -, -⟩ := DataW.trod_int Tryz.underlying3 h2
  obtain ⟨d', e3, -, -⟩ := DataW.trod_int Tryz.underlying3 h3
  simp at e0 e1 e2 e3
  subst e0 e1 e2 e3
  exact ⟨a, b, c, d', rfl, hwf⟩
end
end Go.Proofs.YtfbfkoeaihknoaaGreatDoor
/- The library's functions that the stitches' texts call, in the words of this claim. -/
namespace Go.Proofs.YtfbfkoeaihknoaaGreatDoor
set_option maxRecDepth 100000
open Go.RowKit
/-- the value of a string with these bytes -/
abbrev strV (l : List UInt8) : Value := .string ⟨l.toArray⟩
theorem str_data (l : List UInt8) : (⟨l.toArray⟩ : ByteArray).data.toList = l := by simp
theorem str_size (l : List UInt8) : (⟨l.toArray⟩ : ByteArray).size = l.length := by simp [ByteArray.size]
theorem str_app (a b : List UInt8) : (⟨a.toArray⟩ ++ ⟨b.toArray⟩ : ByteArray) = ⟨(a ++ b).toArray⟩ := by
  apply ByteArray.ext
  simp
theorem str_ext0 (l : List UInt8) (k : Nat) : (⟨l.toArray⟩ : ByteArray).extract 0 k = ⟨(l.take k).toArray⟩ := by
  apply ByteArray.ext
  apply Array.toList_inj.1
  rw [Lib.extract_from_zero]
theorem str_extD (l : List UInt8) (k n : Nat) (h : l.length ≤ n) : (⟨l.toArray⟩ : ByteArray).extract k n = ⟨(l.drop k).toArray⟩ := by
  apply ByteArray.ext
  apply Array.toList_inj.1
  rw [Lib.extract_data]
  exact List.take_of_length_le (by simp; omega)
theorem str_at (l : List UInt8) (k : Nat) (h : k < (⟨l.toArray⟩ : ByteArray).size) : (⟨l.toArray⟩ : ByteArray)[k] = l.getD k 0 := by
  have h2 : k < l.length := by simpa [ByteArray.size] using h
  rw [List.getD_eq_getElem?_getD, List.getElem?_eq_getElem h2]
  rfl
theorem itoa_any (n : Int) (h0 : 0 ≤ n) (h1 : n ≤ 1000000000000) (w : World) (hg : Glob w) :
    Calls Tryz.prog 46 #[.int .i64 n] w fun e w' => e = .returned (.string ⟨(decD n.toNat).toArray⟩) ∧ Ext w w' := by
  refine (Tryz.strconv_Itoa n (by omega) (by omega) w hg.tab).mono ?_
  rintro e w' ⟨rfl, k, os, rfl⟩
  exact ⟨by rw [itoa_lib h0 h1], Lib.below_grow _ _ (Nat.le_refl _) _ _⟩
/-- Atoi of some digits, or of none -/
theorem atoi_digits_any (l : List UInt8) (hl : l.length ≤ 4) (h : l.all isDg = true) (h0 : l ≠ []) (w : World) :
    Calls Tryz.prog 82 #[.string ⟨l.toArray⟩] w fun e w' => e = .returned (.tuple #[.int .i64 (valD l : Int), .nilIface]) ∧ Ext w w' := by
  refine (Tryz.strconv_Atoi ⟨l.toArray⟩ (valD l : Int) (by rw [str_size]; omega) (by rw [str_data]; exact atoi_digits h h0) w).mono ?_
  rintro e w' ⟨rfl, t, rfl⟩
  exact ⟨rfl, Lib.bytesWorld_below _ _ _⟩
theorem atoi_none_any (w : World) (hg : Glob w) :
    Calls Tryz.prog 82 #[.string ⟨#[]⟩] w fun e w' => (∃ te p, e = .returned (.tuple #[.int .i64 0, .iface te (.pointer (some p))])) ∧ Ext w w' := by
  obtain ⟨tp, p, hv⟩ := hg.syn
  refine (Tryz.strconv_Atoi_err_var ⟨#[]⟩ (by simp [ByteArray.size]) rfl tp p w hv).mono ?_
  rintro e w' ⟨N, rfl, _, _, hb⟩
  exact ⟨⟨_, _, rfl⟩, hb⟩
theorem atoi_e_any (w : World) (hg : Glob w) :
    Calls Tryz.prog 82 #[.string ByteArray.empty] w fun e w' => (∃ te p, e = .returned (.tuple #[.int .i64 0, .iface te (.pointer (some p))])) ∧ Ext w w' := atoi_none_any w hg
/-- a string as one cell -/
def shStr : Shp (List UInt8) where
  size := 1
  cells x := [.string ⟨x.toArray⟩]
  pos := by omega
  len _ := rfl
  one x u h := by
    simp at h
    subst h
    rfl
theorem info_str : (Tryz.prog.info? 9).map (fun i => (i.zero, i.size, i.bytes)) = some (some (.string ⟨#[]⟩), 1, 16) := by kernel_rfl
theorem split_any (l : List UInt8) (c : UInt8) (hl : l.length ≤ 100000) (w : World) (hg : Glob w) :
    Calls Tryz.prog 92 #[.string ⟨l.toArray⟩, .string ⟨#[c]⟩] w fun e w' => ∃ g n, e = .returned (.slice (some ⟨g, 0, none⟩) n n) ∧ Ext w w' ∧ Vec shStr w' (some ⟨g, 0, none⟩) n (spl c l) := by
  obtain ⟨m, hm⟩ := hg.max
  refine (Tryz.strings_Split ⟨l.toArray⟩ ⟨#[c]⟩ m w (by rw [str_size]; omega) hm (by simp [ByteArray.size])).mono ?_
  rintro e w' ⟨rfl, rfl⟩
  have hs := split_spl c ⟨l.toArray⟩
  rw [str_data] at hs
  have hlen : (spl c l).length = Lib.countB ⟨l.toArray⟩ ⟨#[c]⟩ + 1 := by
    rw [spl_count c _ l (Nat.le_refl _), Lib.countB, str_data]
  refine ⟨w.heap.size, _, rfl, (Ext.refl _).alloc _, hlen, fun _ => ⟨w.heap.size, 0, rfl, by simp, fun k x hx i u hu => ?_⟩⟩
  have hi : i = 0 := by
    rcases i with _ | i
    · rfl
    · simp [shStr] at hu
  subst hi
  have hu2 : u = .string ⟨x.toArray⟩ := by simp [shStr] at hu; exact hu.symm
  subst hu2
  have h1 : (w.alloc (.cells ((Lib.splitB ⟨#[c]⟩ 0 (Lib.countB ⟨l.toArray⟩ ⟨#[c]⟩) ⟨l.toArray⟩).map Value.string).toArray 9)).heap[w.heap.size]? = some (.cells ((Lib.splitB ⟨#[c]⟩ 0 (Lib.countB ⟨l.toArray⟩ ⟨#[c]⟩) ⟨l.toArray⟩).map Value.string).toArray 9) := heap_alloc_new w _
  rw [cell_of_row _ w.heap.size _ _ 9 (0, 0) h1]
  rw [← hs, List.getElem?_map] at hx
  obtain ⟨y, hy, rfl⟩ := Option.map_eq_some_iff.1 hx
  simp [hy, shStr]
theorem flat_str : ∀ (ws : List (List UInt8)), ws.flatMap shStr.cells = ws.map (fun l => Value.string ⟨l.toArray⟩) := by
  intro ws
  induction ws with
  | nil => rfl
  | cons x ws ih => rw [List.flatMap_cons, ih]; rfl
/-- strings.Join of a list that the call has made -/
theorem join_any (B n c : Nat) (A : Option Addr) (ws : List (List UInt8)) (d : UInt8) (e : TypeId) (w : World) (hv : OwnV shStr w B e (.slice A n c) n ws) (hl : (joinB d ws).length ≤ 100000000) (hws : n ≤ 100000000) :
    Calls Tryz.prog 78 #[.slice A n c, .string ⟨#[d]⟩] w fun e w' => e = .returned (.string ⟨(joinB d ws).toArray⟩) ∧ Ext w w' := by
  have hn : ws.length = n := OwnV.len hv
  rcases hv.2 with ⟨h0, h1⟩ | ⟨g, cap, cur, h0, hB, hg, hnc, hcm, hsz, hcur⟩
  · cases h0
    obtain rfl : ws = [] := List.eq_nil_of_length_eq_zero hn
    refine (Tryz.strings_Join_none none 0 ⟨#[d]⟩ w).mono ?_
    rintro e w' ⟨rfl, rfl⟩
    exact ⟨rfl, Ext.refl _⟩
  · cases h0
    have hx : (ws.map (fun l => (⟨l.toArray⟩ : ByteArray))).map (·.data.toList) = ws := by
      rw [List.map_map]
      conv => rhs; rw [← List.map_id ws]
      apply List.map_congr_left
      intro l _
      simp
    have hj : Lib.join ((ws.map (fun l => (⟨l.toArray⟩ : ByteArray))).map (·.data.toList)) (⟨#[d]⟩ : ByteArray).data.toList = joinB d ws := by
      rw [hx]
      exact join_lib d ws
    have h9 := Tryz.strings_Join g 0 c (ws.map (fun l => (⟨l.toArray⟩ : ByteArray))) ⟨#[d]⟩ w (fun j x hjx => ?_) (Array.getElem?_eq_some_iff.1 hg).1 (by rw [List.length_map]; omega) (by rw [List.length_map]; omega) (by rw [hj]; omega)
    · rw [List.length_map, hn] at h9
      refine h9.mono ?_
      rintro e w' ⟨rfl, hb⟩
      exact ⟨by rw [hj], hb⟩
    · rw [List.getElem?_map] at hjx
      obtain ⟨l, hl1, rfl⟩ := Option.map_eq_some_iff.1 hjx
      rw [cell_of_row _ g _ _ e (0, 0) hg]
      have h8 : (ws.flatMap shStr.cells)[j]? = some (.string ⟨l.toArray⟩) := by
        rw [flat_str, List.getElem?_map, hl1]
        rfl
      rw [← hcur, List.getElem?_take] at h8
      split at h8
      · rw [Nat.zero_add]
        simpa using h8
      · cases h8
end Go.Proofs.YtfbfkoeaihknoaaGreatDoor
