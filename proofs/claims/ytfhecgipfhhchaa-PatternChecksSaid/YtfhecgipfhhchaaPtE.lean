/- Whether patterns are great. -/
import Derived.Test.YtfhecgipfhhchaaPtC
namespace Go.Proofs.Ytfhecgipfhhchaa
set_option maxRecDepth 100000
set_option maxRecDepth 100000
open Go.RowKit Go.ChangeShapes Go.WideShapes Go.Joins
/-- a chart in a box -/
def BoxC (w : World) (b : Nat) (s : Int) (A : Option Addr) (n c : Nat) : Prop := w.heap[b]? = some (.cells #[.int .i64 s, .slice A n c] 31 (0, 0))
theorem BoxC.ext {w w' : World} {b : Nat} {s : Int} {A : Option Addr} {n c : Nat} (h : BoxC w b s A n c) (hb : Ext w w') : BoxC w' b s A n c := by
  unfold BoxC at h ⊢
  rw [hb.block _ (Array.getElem?_eq_some_iff.1 h).1]
  exact h
theorem BoxC.facts {w : World} {b : Nat} {s : Int} {A : Option Addr} {n c : Nat} (h : BoxC w b s A n c) : w.cell? ⟨b, 0, none⟩ = some (.int .i64 s) ∧ w.cell? ⟨b, 1, none⟩ = some (.slice A n c) ∧ b < w.heap.size :=
  ⟨(cell_of_row w _ 0 _ _ (0, 0) h).trans rfl, (cell_of_row w _ 1 _ _ (0, 0) h).trans rfl, (Array.getElem?_eq_some_iff.1 h).1⟩
theorem BoxC.start (w : World) (s : Int) (A : Option Addr) (n c : Nat) : BoxC (w.alloc (.cells #[.int .i64 s, .slice A n c] 31)) w.heap.size s A n c := heap_alloc_new w _
/-- it returns a Boolean -/
def AnyB (e : Ending) : Prop := ∃ b, e = .returned (.bool b)
theorem AnyB.mk_ (b : Bool) : AnyB (.returned (.bool b)) := ⟨b, rfl⟩
set_option maxHeartbeats 8000000 in
theorem greatc_any (s : Int) (A : Option Addr) (m c : Nat) (l : List Ro) (w : World) (hr : Rws w (fun _ => True) A m l) :
    Calls Try.prog 12 #[.agg #[.int .i64 s, .slice A m c]] w fun e w' => AnyB e ∧ Ext w w' := by
  have HRV := Lib.hid hr
  have hm := hr.1
  unfold maxLen at hm
  have HBX := Lib.hid (BoxC.start w s A m c)
  have HW0 := Lib.hid (show Ext w (w.alloc (.cells #[.int .i64 s, .slice A m c] 31)) from (Ext.refl w).alloc _)
  clear hr
  go_enter Try.func12, Try.ntmps12
  go_wp2_with fail
  go_loopw [3] (fun i wr => ∃ k : Nat, i = .int .i64 (k : Int) ∧ k ≤ m ∧ Hid (Ext (w.alloc (.cells #[.int .i64 s, .slice A m c] 31)) wr)) (fun i _ => m - (intOf i).toNat)
  case atStart => exact ⟨0, rfl, Nat.zero_le _, Lib.hid (Ext.refl _)⟩
  case round =>
    obtain ⟨k, rfl, hk, HE⟩ := hrel
    obtain ⟨wa, rfl⟩ : ∃ wa : World, wa = wr := ⟨_, rfl⟩
    obtain ⟨x0, x1, xz⟩ := (HBX.out.ext HE.out).facts
    have q0 : (0 : Int) ≤ (k : Int) := by omega
    by_cases hlt : k < m
    · have q1 : (k : Int) < (m : Int) := by omega
      obtain ⟨b, off, A', n', c', rfl, hb, -, c0, c1, -, -, -, -⟩ := (HRV.out.ext (HW0.out.trans HE.out)).at_ hlt
      clear c0
      by_cases h24 : 24 < n'
      · have p1 : (24 : Int) < (n' : Int) := by omega
        clear h24
        go_wp2_with fail
        go_ret
        exact ⟨AnyB.mk_ _, HW0.out.trans HE.out⟩
      · have p1 : ¬ ((24 : Int) < (n' : Int)) := by omega
        clear h24
        go_wp2_with fail
        go_roundw
        case rel => exact ⟨k + 1, by go_num, by omega, HE⟩
        case measure => simp [intOf] <;> omega
    · obtain rfl : m = k := by omega
      by_cases h16 : 16 < m
      · have p1 : (16 : Int) < (m : Int) := by omega
        by_cases h100 : m ≤ 100
        · have p2 : (m : Int) ≤ 100 := by omega
          clear h16 h100
          go_wp2_with fail
          go_ret
          exact ⟨AnyB.mk_ _, HW0.out.trans HE.out⟩
        · have p2 : ¬ ((m : Int) ≤ 100) := by omega
          by_cases h110 : 110 < m
          · have p3 : (110 : Int) < (m : Int) := by omega
            clear h16 h100 h110
            go_wp2_with fail
            go_ret
            exact ⟨AnyB.mk_ _, HW0.out.trans HE.out⟩
          · have p3 : ¬ ((110 : Int) < (m : Int)) := by omega
            clear h16 h100 h110
            go_wp2_with fail
            go_ret
            exact ⟨AnyB.mk_ _, HW0.out.trans HE.out⟩
      · have p1 : ¬ ((16 : Int) < (m : Int)) := by omega
        have p3 : ¬ ((110 : Int) < (m : Int)) := by omega
        clear h16
        go_wp2_with fail
        go_ret
        exact ⟨AnyB.mk_ _, HW0.out.trans HE.out⟩
/-- what is known of a pattern that is not great -/
def SmallP (nm : List UInt8) (ns nc : Nat) (st : List Stf) (se : List Sec) : Prop := ns ≤ 30 ∧ nc ≤ 30 ∧ nm.length ≤ 100 ∧ (∀ i, i < ns → (stN st i).length ≤ 100) ∧ ∀ i, i < nc → (seN se i).length ≤ 100
def GrtR (nm : List UInt8) (ns nc : Nat) (st : List Stf) (se : List Sec) (w : World) (e : Ending) (w' : World) : Prop := (∃ b, e = .returned (.bool b) ∧ (b = false → SmallP nm ns nc st se)) ∧ Ext w w'
theorem GrtR.yes {nm : List UInt8} {ns nc : Nat} {st : List Stf} {se : List Sec} {w w' : World} (hb : Ext w w') : GrtR nm ns nc st se w (.returned (.bool true)) w' := ⟨⟨true, rfl, fun h => by cases h⟩, hb⟩
theorem GrtR.no {nm : List UInt8} {ns nc : Nat} {st : List Stf} {se : List Sec} {w w' : World} (h : SmallP nm ns nc st se) (hb : Ext w w') : GrtR nm ns nc st se w (.returned (.bool false)) w' := ⟨⟨false, rfl, fun _ => h⟩, hb⟩
set_option maxHeartbeats 8000000 in
theorem pgreat_any (nm : List UInt8) (g1 g2 g3 g4 : Int) (As : Option Addr) (ns cs : Nat) (st : List Stf) (Ac : Option Addr) (nc cc : Nat) (se : List Sec) (w : World) (hs : Vec shStf w As ns st) (hsm : ns ≤ maxLen) (hc : Secs w Ac nc se) :
    Calls Try.prog 4 #[.agg #[.string ⟨nm.toArray⟩, .int .i64 g1, .int .i64 g2, .int .i64 g3, .int .i64 g4, .slice As ns cs, .slice Ac nc cc]] w (GrtR nm ns nc st se w) := by
  have hcm := hc.1
  unfold maxLen at hsm hcm
  have HSV := Lib.hid hs
  have HCV := Lib.hid hc
  have HBX := Lib.hid (BoxP.start w nm g1 g2 g3 g4 As ns cs Ac nc cc)
  have HW0 := Lib.hid (show Ext w (w.alloc (.cells #[.string ⟨nm.toArray⟩, .int .i64 g1, .int .i64 g2, .int .i64 g3, .int .i64 g4, .slice As ns cs, .slice Ac nc cc] 27)) from (Ext.refl w).alloc _)
  clear hs hc
  by_cases h1 : 30 < ns
  · have p1 : (30 : Int) < (ns : Int) := by omega
    clear h1
    go_enter Try.func4, Try.ntmps4
    go_wp2_with fail
    go_ret
    exact GrtR.yes (by repeat (first | exact Ext.refl _ | assumption | refine Ext.alloc ?_ _ | refine Ext.drew ?_ | refine Ext.drewN ?_ _ | refine Ext.trans ?_ (by assumption)))
  have p1 : ¬ ((30 : Int) < (ns : Int)) := by omega
  by_cases h2 : 4 < nc ∧ nc ≤ 20
  · have p2 : (4 : Int) < (nc : Int) := by omega
    have p3 : (nc : Int) ≤ 20 := by omega
    clear h1 h2
    go_enter Try.func4, Try.ntmps4
    go_wp2_with fail
    go_ret
    exact GrtR.yes (by repeat (first | exact Ext.refl _ | assumption | refine Ext.alloc ?_ _ | refine Ext.drew ?_ | refine Ext.drewN ?_ _ | refine Ext.trans ?_ (by assumption)))
  by_cases h4 : 4 < nc
  · have p2 : (4 : Int) < (nc : Int) := by omega
    have p3 : ¬ ((nc : Int) ≤ 20) := by omega
    by_cases h3 : 30 < nc
    · have p4 : (30 : Int) < (nc : Int) := by omega
      clear h1 h2 h3 h4
      go_enter Try.func4, Try.ntmps4
      go_wp2_with fail
      go_ret
      exact GrtR.yes (by repeat (first | exact Ext.refl _ | assumption | refine Ext.alloc ?_ _ | refine Ext.drew ?_ | refine Ext.drewN ?_ _ | refine Ext.trans ?_ (by assumption)))
    have p4 : ¬ ((30 : Int) < (nc : Int)) := by omega
    by_cases h5 : 100 < nm.length
    · have p5 : (100 : Int) < (nm.length : Int) := by omega
      clear h1 h2 h3 h4 h5
      go_enter Try.func4, Try.ntmps4
      go_wp2_with fail
      go_ret
      exact GrtR.yes (by repeat (first | exact Ext.refl _ | assumption | refine Ext.alloc ?_ _ | refine Ext.drew ?_ | refine Ext.drewN ?_ _ | refine Ext.trans ?_ (by assumption)))
    have p5 : ¬ ((100 : Int) < (nm.length : Int)) := by omega
    have HSM := Lib.hid (show ns ≤ 30 ∧ nc ≤ 30 ∧ nm.length ≤ 100 by omega)
    clear h1 h2 h3 h4 h5
    go_enter Try.func4, Try.ntmps4
    go_wp2_with fail
    go_loopw [3] (fun i wr => ∃ k : Nat, i = .int .i64 (k : Int) ∧ k ≤ ns ∧ Hid (∀ j, j < k → (stN st j).length ≤ 100) ∧ Hid (Ext (w.alloc (.cells #[.string ⟨nm.toArray⟩, .int .i64 g1, .int .i64 g2, .int .i64 g3, .int .i64 g4, .slice As ns cs, .slice Ac nc cc] 27)) wr)) (fun i _ => ns - (intOf i).toNat)
    case atStart => exact ⟨0, rfl, Nat.zero_le _, Lib.hid (fun j hj => absurd hj (by omega)), Lib.hid (Ext.refl _)⟩
    case round =>
      obtain ⟨k, rfl, hk, HS, HE⟩ := hrel
      obtain ⟨wa, rfl⟩ : ∃ wa : World, wa = wr := ⟨_, rfl⟩
      obtain ⟨x0, x1, x2, x3, x4, x5, x6, xz⟩ := (HBX.out.ext HE.out).facts
      have q0 : (0 : Int) ≤ (k : Int) := by omega
      by_cases hlt : k < ns
      · have q1 : (k : Int) < (ns : Int) := by omega
        obtain ⟨b', off, rfl, hb', c0, c1⟩ := Stf.at_ (HSV.out.ext (HW0.out.trans HE.out)) hlt
        obtain ⟨Y, hY⟩ : ∃ Y, stN st k = Y := ⟨_, rfl⟩
        rw [hY] at c0
        have HY := Lib.hid hY
        clear hY c1
        by_cases hl : 100 < Y.length
        · have p6 : (100 : Int) < (Y.length : Int) := by omega
          clear hl
          go_wp2_with fail
          go_ret
          exact GrtR.yes (HW0.out.trans HE.out)
        · have p6 : ¬ ((100 : Int) < (Y.length : Int)) := by omega
          have HN := Lib.hid (show ∀ j, j < k + 1 → (stN st j).length ≤ 100 from fun j hj => by
            by_cases e : j = k
            · subst e; rw [HY.out]; omega
            · exact HS.out j (by omega))
          clear hl
          go_wp2_with fail
          go_roundw
          case rel => exact ⟨k + 1, by go_num, by omega, HN, HE⟩
          case measure => simp [intOf] <;> omega
      · obtain rfl : ns = k := by omega
        go_wp2_with fail
        go_loopw [4] (fun i wr => ∃ j : Nat, i = .int .i64 (j : Int) ∧ j ≤ nc ∧ Hid (∀ i, i < j → (seN se i).length ≤ 100) ∧ Hid (Ext (w.alloc (.cells #[.string ⟨nm.toArray⟩, .int .i64 g1, .int .i64 g2, .int .i64 g3, .int .i64 g4, .slice As ns cs, .slice Ac nc cc] 27)) wr)) (fun i _ => nc - (intOf i).toNat)
        case atStart => exact ⟨0, rfl, Nat.zero_le _, Lib.hid (fun j hj => absurd hj (by omega)), HE⟩
        case round =>
          clear x0 x1 x2 x3 x4 x5 x6 xz
          obtain ⟨j, rfl, hj, HC, HEJ⟩ := hrel
          obtain ⟨wb, rfl⟩ : ∃ wb : World, wb = wr := ⟨_, rfl⟩
          obtain ⟨x0, x1, x2, x3, x4, x5, x6, xz⟩ := (HBX.out.ext HEJ.out).facts
          have r0 : (0 : Int) ≤ (j : Int) := by omega
          by_cases hjl : j < nc
          · have r1 : (j : Int) < (nc : Int) := by omega
            obtain ⟨b', off, A', n', c', rfl, hb', c0, c1, c2, hr, hcap⟩ := (HCV.out.ext (HW0.out.trans HEJ.out)).at_ hjl
            have HRW := Lib.hid hr
            obtain ⟨Y, hY⟩ : ∃ Y, seN se j = Y := ⟨_, rfl⟩
            rw [hY] at c0
            generalize (se.getD j sec0).s = S at c1
            have HGC := Lib.hid (fun (w' : World) (h : Ext wb w') => greatc_any S A' n' c' _ w' (HRW.out.ext h))
            have HY := Lib.hid hY
            clear hY hr
            by_cases hl : 100 < Y.length
            · have p6 : (100 : Int) < (Y.length : Int) := by omega
              clear hl
              go_wp2_with fail
              go_ret
              exact GrtR.yes (HW0.out.trans HEJ.out)
            · have p6 : ¬ ((100 : Int) < (Y.length : Int)) := by omega
              have HN := Lib.hid (show ∀ i, i < j + 1 → (seN se i).length ≤ 100 from fun i hi => by
                by_cases e : i = j
                · subst e; rw [HY.out]; omega
                · exact HC.out i (by omega))
              clear hl
              go_wp2_with (first
                | (go_at_call 12; go_loud ((with_reducible refine (HGC.out _ (by repeat (first | exact Ext.refl _ | assumption | refine Ext.alloc ?_ _ | refine Ext.drew ?_ | refine Ext.drewN ?_ _ | refine Ext.trans ?_ (by assumption)))).mono ?_); rintro e w5 ⟨⟨bb, rfl⟩, hq5⟩; cases bb)))
              · go_roundw
                case rel => exact ⟨j + 1, by go_num, by omega, HN, Lib.hid (HEJ.out.trans (by repeat (first | exact Ext.refl _ | assumption | refine Ext.alloc ?_ _ | refine Ext.drew ?_ | refine Ext.drewN ?_ _ | refine Ext.trans ?_ (by assumption))))⟩
                case measure => simp [intOf] <;> omega
              · go_ret
                exact GrtR.yes (HW0.out.trans (HEJ.out.trans (by repeat (first | exact Ext.refl _ | assumption | refine Ext.alloc ?_ _ | refine Ext.drew ?_ | refine Ext.drewN ?_ _ | refine Ext.trans ?_ (by assumption)))))
          · obtain rfl : nc = j := by omega
            go_wp2_with fail
            go_ret
            exact GrtR.no ⟨HSM.out.1, HSM.out.2.1, HSM.out.2.2, HS.out, HC.out⟩ (HW0.out.trans HEJ.out)
  · have p2 : ¬ ((4 : Int) < (nc : Int)) := by omega
    have p4 : ¬ ((30 : Int) < (nc : Int)) := by omega
    by_cases h5 : 100 < nm.length
    · have p5 : (100 : Int) < (nm.length : Int) := by omega
      clear h1 h2 h4 h5
      go_enter Try.func4, Try.ntmps4
      go_wp2_with fail
      go_ret
      exact GrtR.yes (by repeat (first | exact Ext.refl _ | assumption | refine Ext.alloc ?_ _ | refine Ext.drew ?_ | refine Ext.drewN ?_ _ | refine Ext.trans ?_ (by assumption)))
    have p5 : ¬ ((100 : Int) < (nm.length : Int)) := by omega
    have HSM := Lib.hid (show ns ≤ 30 ∧ nc ≤ 30 ∧ nm.length ≤ 100 by omega)
    clear h1 h2 h4 h5
    go_enter Try.func4, Try.ntmps4
    go_wp2_with fail
    go_loopw [3] (fun i wr => ∃ k : Nat, i = .int .i64 (k : Int) ∧ k ≤ ns ∧ Hid (∀ j, j < k → (stN st j).length ≤ 100) ∧ Hid (Ext (w.alloc (.cells #[.string ⟨nm.toArray⟩, .int .i64 g1, .int .i64 g2, .int .i64 g3, .int .i64 g4, .slice As ns cs, .slice Ac nc cc] 27)) wr)) (fun i _ => ns - (intOf i).toNat)
    case atStart => exact ⟨0, rfl, Nat.zero_le _, Lib.hid (fun j hj => absurd hj (by omega)), Lib.hid (Ext.refl _)⟩
    case round =>
      obtain ⟨k, rfl, hk, HS, HE⟩ := hrel
      obtain ⟨wa, rfl⟩ : ∃ wa : World, wa = wr := ⟨_, rfl⟩
      obtain ⟨x0, x1, x2, x3, x4, x5, x6, xz⟩ := (HBX.out.ext HE.out).facts
      have q0 : (0 : Int) ≤ (k : Int) := by omega
      by_cases hlt : k < ns
      · have q1 : (k : Int) < (ns : Int) := by omega
        obtain ⟨b', off, rfl, hb', c0, c1⟩ := Stf.at_ (HSV.out.ext (HW0.out.trans HE.out)) hlt
        obtain ⟨Y, hY⟩ : ∃ Y, stN st k = Y := ⟨_, rfl⟩
        rw [hY] at c0
        have HY := Lib.hid hY
        clear hY c1
        by_cases hl : 100 < Y.length
        · have p6 : (100 : Int) < (Y.length : Int) := by omega
          clear hl
          go_wp2_with fail
          go_ret
          exact GrtR.yes (HW0.out.trans HE.out)
        · have p6 : ¬ ((100 : Int) < (Y.length : Int)) := by omega
          have HN := Lib.hid (show ∀ j, j < k + 1 → (stN st j).length ≤ 100 from fun j hj => by
            by_cases e : j = k
            · subst e; rw [HY.out]; omega
            · exact HS.out j (by omega))
          clear hl
          go_wp2_with fail
          go_roundw
          case rel => exact ⟨k + 1, by go_num, by omega, HN, HE⟩
          case measure => simp [intOf] <;> omega
      · obtain rfl : ns = k := by omega
        go_wp2_with fail
        go_loopw [4] (fun i wr => ∃ j : Nat, i = .int .i64 (j : Int) ∧ j ≤ nc ∧ Hid (∀ i, i < j → (seN se i).length ≤ 100) ∧ Hid (Ext (w.alloc (.cells #[.string ⟨nm.toArray⟩, .int .i64 g1, .int .i64 g2, .int .i64 g3, .int .i64 g4, .slice As ns cs, .slice Ac nc cc] 27)) wr)) (fun i _ => nc - (intOf i).toNat)
        case atStart => exact ⟨0, rfl, Nat.zero_le _, Lib.hid (fun j hj => absurd hj (by omega)), HE⟩
        case round =>
          clear x0 x1 x2 x3 x4 x5 x6 xz
          obtain ⟨j, rfl, hj, HC, HEJ⟩ := hrel
          obtain ⟨wb, rfl⟩ : ∃ wb : World, wb = wr := ⟨_, rfl⟩
          obtain ⟨x0, x1, x2, x3, x4, x5, x6, xz⟩ := (HBX.out.ext HEJ.out).facts
          have r0 : (0 : Int) ≤ (j : Int) := by omega
          by_cases hjl : j < nc
          · have r1 : (j : Int) < (nc : Int) := by omega
            obtain ⟨b', off, A', n', c', rfl, hb', c0, c1, c2, hr, hcap⟩ := (HCV.out.ext (HW0.out.trans HEJ.out)).at_ hjl
            have HRW := Lib.hid hr
            obtain ⟨Y, hY⟩ : ∃ Y, seN se j = Y := ⟨_, rfl⟩
            rw [hY] at c0
            generalize (se.getD j sec0).s = S at c1
            have HGC := Lib.hid (fun (w' : World) (h : Ext wb w') => greatc_any S A' n' c' _ w' (HRW.out.ext h))
            have HY := Lib.hid hY
            clear hY hr
            by_cases hl : 100 < Y.length
            · have p6 : (100 : Int) < (Y.length : Int) := by omega
              clear hl
              go_wp2_with fail
              go_ret
              exact GrtR.yes (HW0.out.trans HEJ.out)
            · have p6 : ¬ ((100 : Int) < (Y.length : Int)) := by omega
              have HN := Lib.hid (show ∀ i, i < j + 1 → (seN se i).length ≤ 100 from fun i hi => by
                by_cases e : i = j
                · subst e; rw [HY.out]; omega
                · exact HC.out i (by omega))
              clear hl
              go_wp2_with (first
                | (go_at_call 12; go_loud ((with_reducible refine (HGC.out _ (by repeat (first | exact Ext.refl _ | assumption | refine Ext.alloc ?_ _ | refine Ext.drew ?_ | refine Ext.drewN ?_ _ | refine Ext.trans ?_ (by assumption)))).mono ?_); rintro e w5 ⟨⟨bb, rfl⟩, hq5⟩; cases bb)))
              · go_roundw
                case rel => exact ⟨j + 1, by go_num, by omega, HN, Lib.hid (HEJ.out.trans (by repeat (first | exact Ext.refl _ | assumption | refine Ext.alloc ?_ _ | refine Ext.drew ?_ | refine Ext.drewN ?_ _ | refine Ext.trans ?_ (by assumption))))⟩
                case measure => simp [intOf] <;> omega
              · go_ret
                exact GrtR.yes (HW0.out.trans (HEJ.out.trans (by repeat (first | exact Ext.refl _ | assumption | refine Ext.alloc ?_ _ | refine Ext.drew ?_ | refine Ext.drewN ?_ _ | refine Ext.trans ?_ (by assumption)))))
          · obtain rfl : nc = j := by omega
            go_wp2_with fail
            go_ret
            exact GrtR.no ⟨HSM.out.1, HSM.out.2.1, HSM.out.2.2, HS.out, HC.out⟩ (HW0.out.trans HEJ.out)
end Go.Proofs.Ytfhecgipfhhchaa
