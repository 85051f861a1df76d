/- The finder of the shortest list: least. -/
import Derived.Test.YtgbmeefcnjdjbaaFindB
namespace Go.Proofs.Ytgbmeefcnjdjbaa
set_option maxRecDepth 100000
set_option maxRecDepth 100000
open Go.RowKit Go.ChangeShapes Go.WideShapes Go.Joins
theorem Vec.far {α : Type} {S : Shp α} {w w' : World} {A : Option Addr} {n g : Nat} {l : List α} (h : Vec S w A n l) (hb : But (some g) w w') (hne : ∀ b off, A = some ⟨b, off, none⟩ → b ≠ g) : Vec S w' A n l :=
  ⟨h.1, fun hn => by
    obtain ⟨b, off, e, hlt, hx⟩ := h.2 hn
    exact ⟨b, off, e, Nat.lt_of_lt_of_le hlt hb.size, fun k x hxk i u hu => (But.cell (p := ⟨b, _, none⟩) hb hlt (by intro e9; cases e9; exact hne b off e rfl)).trans (hx k x hxk i u hu)⟩⟩
theorem ch_one {l : List St} (h : l ≠ []) (h1 : perB l 1 = true) : ch l = ⟨1, 0, 0⟩ := by rw [ch_eq h, chG, if_pos h1]
/-- what holds in the rounds of least -/
structure LI (l : List St) (g n c : Nat) (A : Option Addr) (tab : Nat → Nat → Chc) (a m : Nat) (w wr : World) (tb : Nat → Nat → Chc) (cc : Chc) : Prop where
  at_ : FAt wr g n c A tb
  ok : TabOk l tb (m - 1)
  up : ∀ x y, m < y → tb x y = tab x y
  row : ∀ x, x ≠ a → tb x m = tab x m
  it : tb a m = ⟨0, cc.period, cc.part⟩
  but : But (some g) w wr
theorem LI.ext {l : List St} {g n c a m : Nat} {A : Option Addr} {tab tb : Nat → Nat → Chc} {w wr wx : World} {cc : Chc} (h : LI l g n c A tab a m w wr tb cc) (hb : Ext wr wx) : LI l g n c A tab a m w wx tb cc :=
  { h with at_ := h.at_.ext hb, but := h.but.trans (But.of_ext hb _) }
/-- behind a call for fewer cells -/
theorem LI.call {l : List St} {g n c a m x p : Nat} {A : Option Addr} {tab tb tb2 : Nat → Nat → Chc} {w wr wx : World} {cc : Chc} (h : LI l g n c A tab a m w wr tb cc) (hp : p < m) (k : Least l g n c A tb x p wr wx tb2) : LI l g n c A tab a m w wx tb2 cc := by
  refine ⟨k.at_, fun x' y h1 h2 h3 => ?_, fun x' y hy => (k.up x' y (by omega)).trans (h.up x' y hy), fun x' hx => (k.up x' m hp).trans (h.row x' hx), (k.up a m hp).trans h.it, h.but.trans k.but⟩
  by_cases hy : y ≤ p
  · exact k.ok x' y h1 hy h3
  · rw [k.up x' y (by omega)]
    exact h.ok x' y h1 h2 h3
/-- an entry's own field is set -/
theorem LI.set {l : List St} {g n c a m : Nat} {A : Option Addr} {tab tb : Nat → Nat → Chc} {w wr : World} {cc cc2 : Chc} (h : LI l g n c A tab a m w wr tb cc) (ha : a < 60) (hm : m ≤ 60) {i : Nat} (hi : i < 3) (v : Nat) (hc : setf ⟨0, cc.period, cc.part⟩ i v = ⟨0, cc2.period, cc2.part⟩) :
    LI l g n c A tab a m w (wr.setCell ⟨g, 1 + a * 183 + m * 3 + i, none⟩ (.int .i64 (v : Int))) (upd tb a m ⟨0, cc2.period, cc2.part⟩) cc2 := by
  have h1 := h.at_.set ha hm hi v
  rw [h.it, hc] at h1
  refine ⟨h1, fun x y hy1 hy2 hy3 => ?_, fun x y hy => ?_, fun x hx => ?_, upd_same _ _ _ _, h.but.own rfl _⟩
  · rw [upd_other (by omega)]; exact h.ok x y hy1 hy2 hy3
  · rw [upd_other (by omega)]; exact h.up x y hy
  · rw [upd_other (fun e => hx e.1)]; exact h.row x hx
/-- the end -/
theorem LI.done {l : List St} {g n c a m : Nat} {A : Option Addr} {tab tb : Nat → Nat → Chc} {w wr : World} {cc : Chc} (h : LI l g n c A tab a m w wr tb cc) (ha : a < 60) (hm : m ≤ 60) (hm1 : 1 ≤ m) (hok : TabOk l tab m) (hc : ch (sub l a m) = cc) :
    Least l g n c A tab a m w (wr.setCell ⟨g, 1 + a * 183 + m * 3, none⟩ (.int .i64 (cc.size : Int))) (upd tb a m cc) := by
  have h1 := h.at_.set ha hm (i := 0) (by omega) cc.size
  rw [h.it] at h1
  refine ⟨h1, fun x y hy1 hy2 hy3 => ?_, fun x y hy => ?_, (upd_same _ _ _ _).trans hc.symm, h.but.own rfl _⟩
  · by_cases e : x = a ∧ y = m
    · obtain ⟨rfl, rfl⟩ := e
      rw [upd_same]
      exact .inr hc.symm
    · rw [upd_other e]
      by_cases ey : y = m
      · subst ey
        rw [h.row x (fun e9 => e ⟨e9, rfl⟩)]
        exact hok x y hy1 hy2 hy3
      · exact h.ok x y hy1 (by omega) hy3
  · rw [upd_other (by omega)]; exact h.up x y hy
theorem LI.start {l : List St} {g n c a m : Nat} {A : Option Addr} {tab : Nat → Nat → Chc} {w : World} {s : Nat} (h : FAt w g n c A tab) (hok : TabOk l tab m) (h0 : tab a m = ⟨0, 0, 0⟩) : LI l g n c A tab a m w w tab ⟨s, 0, 0⟩ :=
  ⟨h, hok.down (by omega), fun _ _ _ => rfl, fun _ _ => rfl, h0, But.refl _ _⟩
end Go.Proofs.Ytgbmeefcnjdjbaa
