/- The iterator over the rows of a chart: its contract. -/
import Derived.RangeFuncNested
import Derived.RangeFuncBound
import Derived.RangeFuncCalls
import Derived.RangeFuncLeaves
import Derived.Shelf.Abstract
import Derived.Shelf.RegionOpen
import Derived.WalkKit
import Derived.OwnWalkIn
import Derived.TacticsInMore
import Derived.LoopNIn
import Derived.LoopIn
import Derived.Test.YtfhecgipfhhchaaStitchC
import Derived.Test.YtfhecgipfhhchaaRws
import Derived.Test.YtfhecgipfhhchaaChartQ
namespace Go.Proofs.Ytfhecgipfhhchaa
set_option maxRecDepth 100000
open Go.RowKit Go.ChangeShapes Go.WideShapes Go.Joins Go.Shelf
attribute [local go_sem] Oper.semAt_some
/-- a block of cells of a type -/
def Typed (T : TypeId) (w : World) (b : Nat) : Prop := ∃ cs f, w.heap[b]? = some (Obj.cells cs T f)
theorem Typed.setCell {T : TypeId} {w : World} {b : Nat} (h : Typed T w b) (p : Addr) (u : Value) : Typed T (w.setCell p u) b := by
  obtain ⟨cs, f, h⟩ := h
  by_cases e : b = p.block
  · refine ⟨if p.spot.isSome then cs else cs.setIfInBounds p.off u, f, ?_⟩
    simp only [World.setCell, Array.getElem?_modify]
    rw [if_pos e.symm, h]
    rfl
  · exact ⟨cs, f, by rw [Below.heap_setCell w p u b e]; exact h⟩
theorem Typed.ext {T : TypeId} {w w' : World} {b : Nat} (h : Typed T w b) (hb : Ext w w') : Typed T w' b := by
  obtain ⟨cs, f, h⟩ := h
  exact ⟨cs, f, by rw [hb.block b (Array.getElem?_eq_some_iff.1 h).1]; exact h⟩
theorem Typed.new_ (T : TypeId) (w : World) (cs : Array Value) : Typed T (w.alloc (.cells cs T)) w.heap.size := ⟨cs, (0, 0), heap_alloc_new w _⟩
theorem Typed.drew {T : TypeId} {w : World} {b : Nat} (h : Typed T w b) : Typed T w.drew b := h
/-- what a round keeps: all that lay when the call began, and each block of a type -/
def KpT (n₀ : Nat) (T : TypeId) (A B : World) : Prop := Below n₀ A B ∧ ∀ b : Nat, Typed T A b → B.heap[b]? = A.heap[b]?
theorem block_cells {A B : World} {b : Nat} (h : B.heap[b]? = A.heap[b]?) : (∀ o, B.cell? ⟨b, o, none⟩ = A.cell? ⟨b, o, none⟩) ∧ (∀ o, B.frozen? ⟨b, o, none⟩ = A.frozen? ⟨b, o, none⟩) :=
  ⟨fun o => World.cell?_of_block (a := ⟨b, o, none⟩) h, fun o => World.frozen?_of_block (a := ⟨b, o, none⟩) h⟩

def encC (x : Cn) : Array Value := #[.int .i64 x.i, .agg #[.int .i64 x.b, .int .i64 x.a, .int .i64 x.e]]
theorem vis_cons {i : Nat} {n : Int} {r : Ro} {rs : List Ro} : visG i n (r :: rs) = if (cnE i n r).e ≠ 0 then [cnE i n r] else cnE i n r :: visG (i + 1) (cnE i n r).a rs := rfl
theorem vis_head {i : Nat} {n : Int} {r : Ro} {rs : List Ro} {x : Cn} (h : cnE i n r = x) : [x] <+: visG i n (r :: rs) := by
  rw [vis_cons, h]
  split
  · exact List.prefix_refl _
  · exact ⟨_, rfl⟩
theorem ext_grown {a b : World} (h : Ext a b) : a.grownBy b none := But.of_ext h none
theorem usG_ok {l : List St} (h : allE l = 0) : usG l = usL l := by rw [usG, if_pos h]
theorem mkG_ok {l : List St} (h : allE l = 0) : mkG l = mkL l := by rw [mkG, if_pos h]
set_option maxRecDepth 100000 in
set_option maxHeartbeats 4000000 in
theorem counted1_in (n l Bc n₀ : Nat) (s : Int) (A : Option Addr) (m c : Nat) (rows : List Ro) (Kp : World → World → Prop) (hn : 1 ≤ n)
    (hK1 : ∀ A B, Kp A B → Below n₀ A B) (hK2 : ∀ (A B : World) (b : Nat), Kp A B → Typed 76 A b → B.heap[b]? = A.heap[b]?)
    (J Jx : List Cn → World → Prop) (W : World) (hJ : AbidesFrom W.heap.size J) (hn₀ : n₀ ≤ W.heap.size)
    (hY : ∀ pre x W, J pre W → pre.length < rows.length → YieldAt Fence.wide (n - 1) Try.prog l (encC x) W fun e W' =>
      (e = .returned (.bool true) ∧ J (pre ++ [x]) W' ∧ Kp W W') ∨ (e = .returned (.bool false) ∧ Jx (pre ++ [x]) W'))
    (hc0 : W.cell? ⟨Bc, 0, none⟩ = some (.int .i64 s)) (hc1 : W.cell? ⟨Bc, 1, none⟩ = some (.slice A m c)) (hr : Rws W (fun b => b < n₀) A m rows) (h0 : J [] W) :
    CallsIn Fence.wide n Try.prog 35 #[.func (.yield l) #[] #[], .pointer (some ⟨Bc, 0, none⟩)] W fun e W' => (∃ v, e = .returned v) ∧
      ((∃ ys, ys = visG 0 s rows ∧ J ys W') ∨ (∃ pre, pre <+: visG 0 s rows ∧ Jx pre W')) := by
  have hml := hr.len
  have hmm := hr.1
  unfold maxLen at hmm
  have hm2 : (m : Int) ≤ 9223372036854775807 := by omega
  have HR := Lib.hid hr
  have HL := Lib.hid hml
  have HK1 := Lib.hid hK1
  have HK2 := Lib.hid hK2
  have HJ0 := Lib.hid hJ
  have HY := Lib.hid hY
  clear hr hml hmm hK1 hK2 hJ hY
  refine callsIn_of_wp Try.func35 rfl trivial ?_ rfl
  simp only [Try.ntmps35, List.size_toArray, List.length_cons, List.length_nil, Nat.reduceAdd, Nat.reduceSub, Array.replicate_succ, Array.replicate_zero, List.push_toArray, List.append_toArray, List.nil_append, List.cons_append]
  gi_wp2
  gi_loopw [3, 14] (fun u i wr => ∃ (k : Nat) (q : Int) (pre : List Cn), i = .int .i64 k ∧ u = .int .i64 q ∧ k ≤ m ∧ pre.length = k ∧ Hid (pre ++ visG k q (rows.drop k) = visG 0 s rows) ∧ Hid (J pre wr ∧ Below n₀ W wr ∧ W.heap.size ≤ wr.heap.size)) (fun _ i _ => m - (intOf i).toNat)
  case atStart => exact ⟨0, s, [], rfl, rfl, Nat.zero_le _, rfl, Lib.hid (by simp), Lib.hid ⟨h0, Below.refl _ _, Nat.le_refl _⟩⟩
  case round =>
    obtain ⟨k, q, pre, rfl, rfl, hk, hpl, HV, HJ⟩ := hrel
    by_cases hlt : k < m
    · obtain ⟨b, off, A', m', c', rfl, hb0, hbK, d0, d1, hv, hm', hby, hbK'⟩ := HR.out.at_ hlt
      have q0 : (0 : Int) ≤ (k : Int) := by omega
      have q1 : (k : Int) < (m : Int) := by omega
      have c0 := (HJ.out.2.1.cell (p := ⟨b, off + k * 2, none⟩) hbK).trans d0
      have c1 := (HJ.out.2.1.cell (p := ⟨b, off + k * 2 + 1, none⟩) hbK).trans d1
      have hz : b < wr.heap.size := by have := HJ.out.2.2; omega
      have HW := Lib.hid (show Vec shSt wr A' m' (rows.getD k ro0).cells from hv.keepK hbK' (HJ.out.2.2) (fun b' _ hb' o => HJ.out.2.1.cell (p := ⟨b', o, none⟩) hb'))
      have HD := Lib.hid (dropRo (l := rows) (k := k) (by rw [HL.out]; exact hlt))
      have hby := Lib.hid hby
      have hm' := Lib.hid hm'
      clear d0 d1 hv hbK'
      obtain ⟨wq, rfl⟩ : ∃ wq : World, wq = wr := ⟨_, rfl⟩
      generalize hrow : rows.getD k ro0 = row at *
      clear hrow
      have HPL := Lib.hid (show pre.length < rows.length by rw [HL.out]; omega)
      have hpl2 := Lib.hid hpl
      clear hpl
      rcases cn_cases k q row with ⟨h1, h2⟩ | ⟨h1, h2, h3⟩ | ⟨h1, h2, h3⟩
      · have HNE := Lib.hid h1
        have H2 := Lib.hid h2
        have hne : (allE row.cells != 0) = true := by simpa using h1
        clear h1 h2
        gi_wp2_with (refine ⟨trivial, ?_⟩; gi_at_call 36; refine (callsIn_wide.2 (uses_any m' c' A' row.cells _ (Vec.ext HW.out (by repeat (first | exact Ext.refl _ | assumption | refine Ext.alloc ?_ _ | refine Ext.drew ?_ | refine Ext.drewN ?_ _ | refine Ext.trans ?_ (by assumption)))) hm'.out hby.out)).mono ?_; rintro e w1 ⟨rfl, hq1⟩; obtain ⟨hf1, hf2, hf3⟩ := hq1.facts)
        have hxx : Ext wq w1 := Ext.trans (((Ext.refl wq).alloc _).alloc _) hq1
        have hxy : Ext wq (w1.setCell ⟨wq.heap.size + 1, 2, none⟩ (.int .i64 (allE row.cells))) := Below.setCell hxx (p := ⟨wq.heap.size + 1, 2, none⟩) (by simp) _
        have HT := Lib.hid (show Typed 76 (w1.setCell ⟨wq.heap.size + 1, 2, none⟩ (.int .i64 (allE row.cells))) (wq.heap.size + 1) from Typed.setCell (Typed.ext (by have := Typed.new_ 76 (wq.alloc (Obj.cells #[Value.bool row.back, Value.slice A' m' c'] 65)) #[Value.int IntKind.i64 q, Value.int IntKind.i64 0, Value.int IntKind.i64 0]; simpa using this) hq1) _ _)
        obtain ⟨fn, tmps, assign, body, hy, hR⟩ := HY.out pre ⟨k, q, 0, allE row.cells⟩ _ (HJ0.out pre wq (w1.setCell ⟨wq.heap.size + 1, 2, none⟩ (.int .i64 (allE row.cells))) none HJ.out.1 (ext_grown hxy) (fun r e => by cases e)) HPL.out
        have HRR := Lib.hid hR
        have HXY := Lib.hid hxy
        clear hR hxy hxx
        dsimp only [encC] at hy
        rw [hy]
        gi_wp2
        refine HRR.out.mono ?_
        rintro e W3 (⟨rfl, hJ3, hk3⟩ | ⟨rfl, hJx3⟩)
        · obtain ⟨hk1, hk2⟩ := block_cells (HK2.out _ _ _ hk3 HT.out)
          have HJ3 := Lib.hid hJ3
          have HB3 := Lib.hid (HK1.out _ _ hk3)
          clear hJ3 hk3 hy
          gi_wp2
          refine bodyPost_ret (results_none rfl _ _ _) rfl ?_
          refine ⟨⟨_, rfl⟩, .inl ⟨_, ?_, HJ3.out⟩⟩
          rw [← HV.out, HD.out, vis_cons, H2.out, if_pos (by simp only; exact HNE.out)]
        · gi_wp2
          refine bodyPost_ret (results_none rfl _ _ _) rfl ?_
          refine ⟨⟨_, rfl⟩, .inr ⟨_, ?_, hJx3⟩⟩
          rw [← HV.out, HD.out]
          exact List.prefix_append_right_inj pre |>.2 (vis_head H2.out)
      · have HNE := Lib.hid (show (26 : Int) ≠ 0 by omega)
        have H2 := Lib.hid h3
        have HA := Lib.hid h1
        have hne : (usG row.cells != q) = true := by rw [usG_ok h1]; simpa using h2
        clear h1 h2 h3
        gi_wp2_with (refine ⟨trivial, ?_⟩; gi_at_call 36; refine (callsIn_wide.2 (uses_any m' c' A' row.cells _ (Vec.ext HW.out (by repeat (first | exact Ext.refl _ | assumption | refine Ext.alloc ?_ _ | refine Ext.drew ?_ | refine Ext.drewN ?_ _ | refine Ext.trans ?_ (by assumption)))) hm'.out hby.out)).mono ?_; rintro e w1 ⟨rfl, hq1⟩; obtain ⟨hf1, hf2, hf3⟩ := hq1.facts; rw [HA.out])
        have hxx : Ext wq w1 := Ext.trans (((Ext.refl wq).alloc _).alloc _) hq1
        have hxy : Ext wq (w1.setCell ⟨wq.heap.size + 1, 2, none⟩ (.int .i64 26)) := Below.setCell hxx (p := ⟨wq.heap.size + 1, 2, none⟩) (by simp) _
        have HT := Lib.hid (show Typed 76 (w1.setCell ⟨wq.heap.size + 1, 2, none⟩ (.int .i64 26)) (wq.heap.size + 1) from Typed.setCell (Typed.ext (by have := Typed.new_ 76 (wq.alloc (Obj.cells #[Value.bool row.back, Value.slice A' m' c'] 65)) #[Value.int IntKind.i64 q, Value.int IntKind.i64 0, Value.int IntKind.i64 0]; simpa using this) hq1) _ _)
        obtain ⟨fn, tmps, assign, body, hy, hR⟩ := HY.out pre ⟨k, q, 0, 26⟩ _ (HJ0.out pre wq (w1.setCell ⟨wq.heap.size + 1, 2, none⟩ (.int .i64 26)) none HJ.out.1 (ext_grown hxy) (fun r e => by cases e)) HPL.out
        have HRR := Lib.hid hR
        have HXY := Lib.hid hxy
        clear hR hxy hxx
        dsimp only [encC] at hy
        rw [hy]
        gi_wp2
        refine HRR.out.mono ?_
        rintro e W3 (⟨rfl, hJ3, hk3⟩ | ⟨rfl, hJx3⟩)
        · obtain ⟨hk1, hk2⟩ := block_cells (HK2.out _ _ _ hk3 HT.out)
          have HJ3 := Lib.hid hJ3
          have HB3 := Lib.hid (HK1.out _ _ hk3)
          clear hJ3 hk3 hy
          gi_wp2
          refine bodyPost_ret (results_none rfl _ _ _) rfl ?_
          refine ⟨⟨_, rfl⟩, .inl ⟨_, ?_, HJ3.out⟩⟩
          rw [← HV.out, HD.out, vis_cons, H2.out, if_pos (by simp only; exact HNE.out)]
        · gi_wp2
          refine bodyPost_ret (results_none rfl _ _ _) rfl ?_
          refine ⟨⟨_, rfl⟩, .inr ⟨_, ?_, hJx3⟩⟩
          rw [← HV.out, HD.out]
          exact List.prefix_append_right_inj pre |>.2 (vis_head H2.out)
      · have H2 := Lib.hid h3
        have HA := Lib.hid h1
        have HU := Lib.hid (show usG row.cells = q by rw [usG_ok h1]; exact h2)
        have HM := Lib.hid (mkG_ok h1)
        clear h1 h2 h3
        gi_wp2_with (first | (refine ⟨trivial, ?_⟩; gi_at_call 36; refine (callsIn_wide.2 (uses_any m' c' A' row.cells _ (Vec.ext HW.out (by repeat (first | exact Ext.refl _ | assumption | refine Ext.alloc ?_ _ | refine Ext.drew ?_ | refine Ext.drewN ?_ _ | refine Ext.trans ?_ (by assumption)))) hm'.out hby.out)).mono ?_; rintro e w1 ⟨rfl, hq1⟩; obtain ⟨hf1, hf2, hf3⟩ := hq1.facts; rw [HA.out, HU.out]) | (refine ⟨trivial, ?_⟩; gi_at_call 37; refine (callsIn_wide.2 (makes_any m' c' A' row.cells _ (Vec.ext HW.out (by repeat (first | exact Ext.refl _ | assumption | refine Ext.alloc ?_ _ | refine Ext.drew ?_ | refine Ext.drewN ?_ _ | refine Ext.trans ?_ (by assumption)))) hm'.out hby.out)).mono ?_; rintro e w2 ⟨rfl, hq2⟩; have hq9 := Ext.trans hq1 hq2; obtain ⟨hg1, hg2, hg3⟩ := hq9.facts; rw [HA.out, HM.out]))
        have hxx : Ext wq w2 := Ext.trans (((Ext.refl wq).alloc _).alloc _) hq9
        have hxy : Ext wq (w2.setCell ⟨wq.heap.size + 1, 1, none⟩ (.int .i64 (mkL row.cells))) := Below.setCell hxx (p := ⟨wq.heap.size + 1, 1, none⟩) (by simp) _
        have HT := Lib.hid (show Typed 76 (w2.setCell ⟨wq.heap.size + 1, 1, none⟩ (.int .i64 (mkL row.cells))) (wq.heap.size + 1) from Typed.setCell (Typed.ext (by have := Typed.new_ 76 (wq.alloc (Obj.cells #[Value.bool row.back, Value.slice A' m' c'] 65)) #[Value.int IntKind.i64 q, Value.int IntKind.i64 0, Value.int IntKind.i64 0]; simpa using this) hq9) _ _)
        obtain ⟨fn, tmps, assign, body, hy, hR⟩ := HY.out pre ⟨k, q, mkL row.cells, 0⟩ _ (HJ0.out pre wq (w2.setCell ⟨wq.heap.size + 1, 1, none⟩ (.int .i64 (mkL row.cells))) none HJ.out.1 (ext_grown hxy) (fun r e => by cases e)) HPL.out
        have HRR := Lib.hid hR
        have HXY := Lib.hid hxy
        clear hR hxy hxx
        dsimp only [encC] at hy
        rw [hy]
        gi_wp2
        refine HRR.out.mono ?_
        rintro e W3 (⟨rfl, hJ3, hk3⟩ | ⟨rfl, hJx3⟩)
        · obtain ⟨hk1, hk2⟩ := block_cells (HK2.out _ _ _ hk3 HT.out)
          have HJ3 := Lib.hid hJ3
          have HB3 := Lib.hid (HK1.out _ _ hk3)
          clear hJ3 hk3 hy
          gi_wp2
          go_roundw
          case rel =>
            refine ⟨k + 1, mkL row.cells, pre ++ [⟨k, q, mkL row.cells, 0⟩], by go_num, rfl, by omega, by have := hpl2.out; simp; omega, Lib.hid ?_, Lib.hid ⟨HJ3.out, ?_, ?_⟩⟩
            · rw [← HV.out, HD.out, vis_cons, H2.out, if_neg (by simp), List.append_assoc]
              rfl
            · exact (HJ.out.2.1.trans ((Below.mono HXY.out (by have := HJ.out.2.2; omega)))).trans HB3.out
            · have h1 := HJ.out.2.2
              have h2 := Below.size HXY.out
              have h3 := HB3.out.size
              omega
          case measure => simp [intOf]; omega
        · gi_wp2
          refine bodyPost_ret (results_none rfl _ _ _) rfl ?_
          refine ⟨⟨_, rfl⟩, .inr ⟨_, ?_, hJx3⟩⟩
          rw [← HV.out, HD.out]
          exact List.prefix_append_right_inj pre |>.2 (vis_head H2.out)
    · obtain rfl : k = m := by omega
      have HE := Lib.hid (show pre = visG 0 s rows by
        have := HV.out
        rw [List.drop_of_length_le (by rw [HL.out]; omega)] at this
        simpa [visG] using this)
      gi_wp2
      go_end0
      exact ⟨⟨_, rfl⟩, .inl ⟨_, HE.out, HJ.out.1⟩⟩
end Go.Proofs.Ytfhecgipfhhchaa
