/- The counts that the iterator over rows hands out, in plain Lean. -/
import Derived.Test.YtjjhoonkooihjaaGreatDoorG00
import Derived.RangeFuncNested
import Derived.RangeFuncBound
import Derived.RangeFuncCalls
import Derived.RangeFuncLeaves
import Derived.Shelf.Abstract
import Derived.Shelf.RegionOpen
import Derived.WalkKit
import Derived.OwnWalkIn
import Derived.TacticsInMore
import Derived.LoopNIn
import Derived.LoopIn
import Derived.Test.YtjjhoonkooihjaaGreatDoorG03
import Derived.RangeFuncBox
import Derived.RangeFuncFrom
import Derived.Test.YtjjhoonkooihjaaGreatDoorRows
import Derived.ProofKit
import Derived.OpenShut
import Derived.Lib.SmallJoins
namespace Go.Proofs.YtjjhoonkooihjaaGreatDoor
set_option maxRecDepth 100000
/-- what is handed out for a row: its number, the loops before it and behind it, its error -/
structure Cn where
  i : Nat
  b : Int
  a : Int
  e : Int
def cnE (i : Nat) (n : Int) (r : Ro) : Cn := if allE r.cells ≠ 0 then ⟨i, n, 0, allE r.cells⟩ else if usL r.cells ≠ n then ⟨i, n, 0, 26⟩ else ⟨i, n, mkL r.cells, 0⟩
/-- all that is handed out: up to the first error -/
def visG : Nat → Int → List Ro → List Cn
  | _, _, [] => []
  | i, n, r :: rs => if (cnE i n r).e ≠ 0 then [cnE i n r] else cnE i n r :: visG (i + 1) (cnE i n r).a rs
theorem vis_len : ∀ {l : List Ro} {i : Nat} {n : Int}, (visG i n l).length ≤ l.length := by
  intro l
  induction l with
  | nil => intro i n; simp [visG]
  | cons r rs ih =>
    intro i n
    rw [visG]
    split
    · simp
    · have := ih (i := i + 1) (n := (cnE i n r).a); simp; omega
theorem chk_cn (i : Nat) (n : Int) (r : Ro) (rs : List Ro) : chkGo n (r :: rs) = if (cnE i n r).e ≠ 0 then (cnE i n r).e else chkGo (cnE i n r).a rs := by
  rw [chkGo]
  unfold cnE
  by_cases h : allE r.cells ≠ 0
  · rw [if_pos h, if_pos h, if_pos h]
  · rw [if_neg h, if_neg h]
    by_cases h2 : usL r.cells ≠ n
    · rw [if_pos h2, if_pos h2, if_pos (by simp)]
    · rw [if_neg h2, if_neg h2, if_neg (by simp)]
theorem vis_ok : ∀ {l : List Ro} {i : Nat} {n : Int}, (∀ x ∈ visG i n l, x.e = 0) → chkGo n l = 0 := by
  intro l
  induction l with
  | nil => intro i n _; rfl
  | cons r rs ih =>
    intro i n h
    rw [visG] at h
    rw [chk_cn i]
    split at h
    · rename_i h1
      exact absurd (h _ (by simp)) h1
    · rename_i h1
      rw [if_neg h1]
      exact ih (i := i + 1) (fun x hx => h x (by simp [hx]))
theorem vis_bad : ∀ {l : List Ro} {i : Nat} {n : Int} {x : Cn}, x ∈ visG i n l → x.e ≠ 0 → chkGo n l = x.e := by
  intro l
  induction l with
  | nil => intro i n x h; simp [visG] at h
  | cons r rs ih =>
    intro i n x h he
    rw [visG] at h
    rw [chk_cn i]
    split at h
    · rename_i h1
      simp at h
      subst h
      rw [if_pos h1]
    · rename_i h1
      rw [if_neg h1]
      rcases List.mem_cons.1 h with rfl | h
      · exact absurd he (by simpa using h1)
      · exact ih h he
theorem vis_cnt : ∀ {l : List Ro} {i : Nat} {n : Int}, chkGo n l = 0 → (visG i n l).map (·.a) = l.map (fun r => mkL r.cells) := by
  intro l
  induction l with
  | nil => intro i n _; rfl
  | cons r rs ih =>
    intro i n h
    rw [chk_cn i] at h
    rw [visG]
    split at h
    · rename_i h1
      exact absurd h h1
    · rename_i h1
      rw [if_neg h1, List.map_cons, List.map_cons, ih h]
      congr 1
      unfold cnE at h1 ⊢
      split
      · rename_i h2
        rw [if_pos h2] at h1
        exact absurd h2 (by simpa using h1)
      · rename_i h2
        rw [if_neg h2] at h1
        split
        · rename_i h3
          rw [if_pos h3] at h1
          simp at h1
        · rfl
theorem cn_cases (i : Nat) (n : Int) (r : Ro) : (allE r.cells ≠ 0 ∧ cnE i n r = ⟨i, n, 0, allE r.cells⟩) ∨ (allE r.cells = 0 ∧ usL r.cells ≠ n ∧ cnE i n r = ⟨i, n, 0, 26⟩) ∨ (allE r.cells = 0 ∧ usL r.cells = n ∧ cnE i n r = ⟨i, n, mkL r.cells, 0⟩) := by
  unfold cnE
  by_cases h : allE r.cells ≠ 0
  · exact .inl ⟨h, if_pos h⟩
  · rw [if_neg h]
    by_cases h2 : usL r.cells ≠ n
    · exact .inr (.inl ⟨by omega, h2, if_pos h2⟩)
    · exact .inr (.inr ⟨by omega, by omega, if_neg h2⟩)
end Go.Proofs.YtjjhoonkooihjaaGreatDoor
/- The iterator over the rows of a chart: its contract. -/
namespace Go.Proofs.YtjjhoonkooihjaaGreatDoor
set_option maxRecDepth 100000
open Go.RowKit Go.ChangeShapes Go.WideShapes Go.Joins Go.Shelf
attribute [local go_sem] Oper.semAt_some
/-- a block of cells of a type -/
def Typed (T : TypeId) (w : World) (b : Nat) : Prop := ∃ cs f, w.heap[b]? = some (Obj.cells cs T f)
theorem Typed.setCell {T : TypeId} {w : World} {b : Nat} (h : Typed T w b) (p : Addr) (u : Value) : Typed T (w.setCell p u) b := by
  obtain ⟨cs, f, h⟩ := h
  by_cases e : b = p.block
  · refine ⟨if p.spot.isSome then cs else cs.setIfInBounds p.off u, f, ?_⟩
    simp only [World.setCell, Array.getElem?_modify]
    rw [if_pos e.symm, h]
    rfl
  · exact ⟨cs, f, by rw [Below.heap_setCell w p u b e]; exact h⟩
theorem Typed.ext {T : TypeId} {w w' : World} {b : Nat} (h : Typed T w b) (hb : Ext w w') : Typed T w' b := by
  obtain ⟨cs, f, h⟩ := h
  exact ⟨cs, f, by rw [hb.block b (Array.getElem?_eq_some_iff.1 h).1]; exact h⟩
theorem Typed.new_ (T : TypeId) (w : World) (cs : Array Value) : Typed T (w.alloc (.cells cs T)) w.heap.size := ⟨cs, (0, 0), heap_alloc_new w _⟩
theorem Typed.drew {T : TypeId} {w : World} {b : Nat} (h : Typed T w b) : Typed T w.drew b := h
/-- what a round keeps: all that lay when the call began, and each block of a type -/
def KpT (n₀ : Nat) (T : TypeId) (A B : World) : Prop := Below n₀ A B ∧ ∀ b : Nat, Typed T A b → B.heap[b]? = A.heap[b]?
theorem block_cells {A B : World} {b : Nat} (h : B.heap[b]? = A.heap[b]?) : (∀ o, B.cell? ⟨b, o, none⟩ = A.cell? ⟨b, o, none⟩) ∧ (∀ o, B.frozen? ⟨b, o, none⟩ = A.frozen? ⟨b, o, none⟩) :=
  ⟨fun o => World.cell?_of_block (a := ⟨b, o, none⟩) h, fun o => World.frozen?_of_block (a := ⟨b, o, none⟩) h⟩

def encC (x : Cn) : Array Value := #[.int .i64 x.i, .agg #[.int .i64 x.b, .int .i64 x.a, .int .i64 x.e]]
theorem vis_cons {i : Nat} {n : Int} {r : Ro} {rs : List Ro} : visG i n (r :: rs) = if (cnE i n r).e ≠ 0 then [cnE i n r] else cnE i n r :: visG (i + 1) (cnE i n r).a rs := rfl
theorem vis_head {i : Nat} {n : Int} {r : Ro} {rs : List Ro} {x : Cn} (h : cnE i n r = x) : [x] <+: visG i n (r :: rs) := by
  rw [vis_cons, h]
  split
  · exact List.prefix_refl _
  · exact ⟨_, rfl⟩
theorem ext_grown {a b : World} (h : Ext a b) : a.grownBy b none := But.of_ext h none
theorem usG_ok {l : List St} (h : allE l = 0) : usG l = usL l := by rw [usG, if_pos h]
theorem mkG_ok {l : List St} (h : allE l = 0) : mkG l = mkL l := by rw [mkG, if_pos h]
set_option maxRecDepth 100000 in
set_option maxHeartbeats 4000000 in
theorem counted1_in (n l Bc n₀ : Nat) (s : Int) (A : Option Addr) (m c : Nat) (rows : List Ro) (Kp : World → World → Prop) (hn : 1 ≤ n)
    (hK1 : ∀ A B, Kp A B → Below n₀ A B) (hK2 : ∀ (A B : World) (b : Nat), Kp A B → Typed 91 A b → B.heap[b]? = A.heap[b]?)
    (J Jx : List Cn → World → Prop) (W : World) (hJ : AbidesFrom W.heap.size J) (hn₀ : n₀ ≤ W.heap.size)
    (hY : ∀ pre x W, J pre W → pre.length < rows.length → YieldAt Fence.wide (n - 1) Tryz.prog l (encC x) W fun e W' =>
      (e = .returned (.bool true) ∧ J (pre ++ [x]) W' ∧ Kp W W') ∨ (e = .returned (.bool false) ∧ Jx (pre ++ [x]) W'))
    (hc0 : W.cell? ⟨Bc, 0, none⟩ = some (.int .i64 s)) (hc1 : W.cell? ⟨Bc, 1, none⟩ = some (.slice A m c)) (hr : Rws W (fun b => b < n₀) A m rows) (h0 : J [] W) :
    CallsIn Fence.wide n Tryz.prog 69 #[.func (.yield l) #[] #[], .pointer (some ⟨Bc, 0, none⟩)] W fun e W' => (∃ v, e = .returned v) ∧
      ((∃ ys, ys = visG 0 s rows ∧ J ys W') ∨ (∃ pre, pre <+: visG 0 s rows ∧ Jx pre W')) := by
  have hml := hr.len
  have hmm := hr.1
  unfold maxLen at hmm
  have hm2 : (m : Int) ≤ 9223372036854775807 := by omega
  have HR := Lib.hid hr
  have HL := Lib.hid hml
  have HK1 := Lib.hid hK1
  have HK2 := Lib.hid hK2
  have HJ0 := Lib.hid hJ
  have HY := Lib.hid hY
  clear hr hml hmm hK1 hK2 hJ hY
  refine callsIn_of_wp Tryz.func69 rfl trivial ?_ rfl
  simp only [Tryz.ntmps69, List.size_toArray, List.length_cons, List.length_nil, Nat.reduceAdd, Nat.reduceSub, Array.replicate_succ, Array.replicate_zero, List.push_toArray, List.append_toArray, List.nil_append, List.cons_append]
  gi_wp2
  gi_loopw [3, 14] (fun u i wr => ∃ (k : Nat) (q : Int) (pre : List Cn), i = .int .i64 k ∧ u = .int .i64 q ∧ k ≤ m ∧ pre.length = k ∧ Hid (pre ++ visG k q (rows.drop k) = visG 0 s rows) ∧ Hid (J pre wr ∧ Below n₀ W wr ∧ W.heap.size ≤ wr.heap.size)) (fun _ i _ => m - (intOf i).toNat)
  case atStart => exact ⟨0, s, [], rfl, rfl, Nat.zero_le _, rfl, Lib.hid (by simp), Lib.hid ⟨h0, Below.refl _ _, Nat.le_refl _⟩⟩
  case round =>
    obtain ⟨k, q, pre, rfl, rfl, hk, hpl, HV, HJ⟩ := hrel
    by_cases hlt : k < m
    · obtain ⟨b, off, A', m', c', rfl, hb0, hbK, d0, d1, hv, hm', hby, hbK'⟩ := HR.out.at_ hlt
      have q0 : (0 : Int) ≤ (k : Int) := by omega
      have q1 : (k : Int) < (m : Int) := by omega
      have c0 := (HJ.out.2.1.cell (p := ⟨b, off + k * 2, none⟩) hbK).trans d0
      have c1 := (HJ.out.2.1.cell (p := ⟨b, off + k * 2 + 1, none⟩) hbK).trans d1
      have hz : b < wr.heap.size := by have := HJ.out.2.2; omega
      have HW := Lib.hid (show Vec shSt wr A' m' (rows.getD k ro0).cells from hv.keepK hbK' (HJ.out.2.2) (fun b' _ hb' o => HJ.out.2.1.cell (p := ⟨b', o, none⟩) hb'))
      have HD := Lib.hid (dropRo (l := rows) (k := k) (by rw [HL.out]; exact hlt))
      have hby := Lib.hid hby
      have hm' := Lib.hid hm'
      clear d0 d1 hv hbK'
      obtain ⟨wq, rfl⟩ : ∃ wq : World, wq = wr := ⟨_, rfl⟩
      generalize hrow : rows.getD k ro0 = row at *
      clear hrow
      have HPL := Lib.hid (show pre.length < rows.length by rw [HL.out]; omega)
      have hpl2 := Lib.hid hpl
      clear hpl
      rcases cn_cases k q row with ⟨h1, h2⟩ | ⟨h1, h2, h3⟩ | ⟨h1, h2, h3⟩
      · have HNE := Lib.hid h1
        have H2 := Lib.hid h2
        have hne : (allE row.cells != 0) = true := by simpa using h1
        clear h1 h2
        gi_wp2_with (refine ⟨trivial, ?_⟩; gi_at_call 18; refine (callsIn_wide.2 (uses_any m' c' A' row.cells _ (Vec.ext HW.out (by repeat (first | exact Ext.refl _ | assumption | refine Ext.alloc ?_ _ | refine Ext.drew ?_ | refine Ext.drewN ?_ _ | refine Ext.trans ?_ (by assumption)))) hm'.out hby.out)).mono ?_; rintro e w1 ⟨rfl, hq1⟩; obtain ⟨hf1, hf2, hf3⟩ := hq1.facts)
        have hxx : Ext wq w1 := Ext.trans (((Ext.refl wq).alloc _).alloc _) hq1
        have hxy : Ext wq (w1.setCell ⟨wq.heap.size + 1, 2, none⟩ (.int .i64 (allE row.cells))) := Below.setCell hxx (p := ⟨wq.heap.size + 1, 2, none⟩) (by simp) _
        have HT := Lib.hid (show Typed 91 (w1.setCell ⟨wq.heap.size + 1, 2, none⟩ (.int .i64 (allE row.cells))) (wq.heap.size + 1) from Typed.setCell (Typed.ext (by have := Typed.new_ 91 (wq.alloc (Obj.cells #[Value.bool row.back, Value.slice A' m' c'] 46)) #[Value.int IntKind.i64 q, Value.int IntKind.i64 0, Value.int IntKind.i64 0]; simpa using this) hq1) _ _)
        obtain ⟨fn, tmps, assign, body, hy, hR⟩ := HY.out pre ⟨k, q, 0, allE row.cells⟩ _ (HJ0.out pre wq (w1.setCell ⟨wq.heap.size + 1, 2, none⟩ (.int .i64 (allE row.cells))) none HJ.out.1 (ext_grown hxy) (fun r e => by cases e)) HPL.out
        have HRR := Lib.hid hR
        have HXY := Lib.hid hxy
        clear hR hxy hxx
        dsimp only [encC] at hy
        rw [hy]
        gi_wp2
        refine HRR.out.mono ?_
        rintro e W3 (⟨rfl, hJ3, hk3⟩ | ⟨rfl, hJx3⟩)
        · obtain ⟨hk1, hk2⟩ := block_cells (HK2.out _ _ _ hk3 HT.out)
          have HJ3 := Lib.hid hJ3
          have HB3 := Lib.hid (HK1.out _ _ hk3)
          clear hJ3 hk3 hy
          gi_wp2
          refine bodyPost_ret (results_none rfl _ _ _) rfl ?_
          refine ⟨⟨_, rfl⟩, .inl ⟨_, ?_, HJ3.out⟩⟩
          rw [← HV.out, HD.out, vis_cons, H2.out, if_pos (by simp only; exact HNE.out)]
        · gi_wp2
          refine bodyPost_ret (results_none rfl _ _ _) rfl ?_
          refine ⟨⟨_, rfl⟩, .inr ⟨_, ?_, hJx3⟩⟩
          rw [← HV.out, HD.out]
          exact List.prefix_append_right_inj pre |>.2 (vis_head H2.out)
      · have HNE := Lib.hid (show (26 : Int) ≠ 0 by omega)
        have H2 := Lib.hid h3
        have HA := Lib.hid h1
        have hne : (usG row.cells != q) = true := by rw [usG_ok h1]; simpa using h2
        clear h1 h2 h3
        gi_wp2_with (refine ⟨trivial, ?_⟩; gi_at_call 18; refine (callsIn_wide.2 (uses_any m' c' A' row.cells _ (Vec.ext HW.out (by repeat (first | exact Ext.refl _ | assumption | refine Ext.alloc ?_ _ | refine Ext.drew ?_ | refine Ext.drewN ?_ _ | refine Ext.trans ?_ (by assumption)))) hm'.out hby.out)).mono ?_; rintro e w1 ⟨rfl, hq1⟩; obtain ⟨hf1, hf2, hf3⟩ := hq1.facts; rw [HA.out])
        have hxx : Ext wq w1 := Ext.trans (((Ext.refl wq).alloc _).alloc _) hq1
        have hxy : Ext wq (w1.setCell ⟨wq.heap.size + 1, 2, none⟩ (.int .i64 26)) := Below.setCell hxx (p := ⟨wq.heap.size + 1, 2, none⟩) (by simp) _
        have HT := Lib.hid (show Typed 91 (w1.setCell ⟨wq.heap.size + 1, 2, none⟩ (.int .i64 26)) (wq.heap.size + 1) from Typed.setCell (Typed.ext (by have := Typed.new_ 91 (wq.alloc (Obj.cells #[Value.bool row.back, Value.slice A' m' c'] 46)) #[Value.int IntKind.i64 q, Value.int IntKind.i64 0, Value.int IntKind.i64 0]; simpa using this) hq1) _ _)
        obtain ⟨fn, tmps, assign, body, hy, hR⟩ := HY.out pre ⟨k, q, 0, 26⟩ _ (HJ0.out pre wq (w1.setCell ⟨wq.heap.size + 1, 2, none⟩ (.int .i64 26)) none HJ.out.1 (ext_grown hxy) (fun r e => by cases e)) HPL.out
        have HRR := Lib.hid hR
        have HXY := Lib.hid hxy
        clear hR hxy hxx
        dsimp only [encC] at hy
        rw [hy]
        gi_wp2
        refine HRR.out.mono ?_
        rintro e W3 (⟨rfl, hJ3, hk3⟩ | ⟨rfl, hJx3⟩)
        · obtain ⟨hk1, hk2⟩ := block_cells (HK2.out _ _ _ hk3 HT.out)
          have HJ3 := Lib.hid hJ3
          have HB3 := Lib.hid (HK1.out _ _ hk3)
          clear hJ3 hk3 hy
          gi_wp2
          refine bodyPost_ret (results_none rfl _ _ _) rfl ?_
          refine ⟨⟨_, rfl⟩, .inl ⟨_, ?_, HJ3.out⟩⟩
          rw [← HV.out, HD.out, vis_cons, H2.out, if_pos (by simp only; exact HNE.out)]
        · gi_wp2
          refine bodyPost_ret (results_none rfl _ _ _) rfl ?_
          refine ⟨⟨_, rfl⟩, .inr ⟨_, ?_, hJx3⟩⟩
          rw [← HV.out, HD.out]
          exact List.prefix_append_right_inj pre |>.2 (vis_head H2.out)
      · have H2 := Lib.hid h3
        have HA := Lib.hid h1
        have HU := Lib.hid (show usG row.cells = q by rw [usG_ok h1]; exact h2)
        have HM := Lib.hid (mkG_ok h1)
        clear h1 h2 h3
        gi_wp2_with (first | (refine ⟨trivial, ?_⟩; gi_at_call 18; refine (callsIn_wide.2 (uses_any m' c' A' row.cells _ (Vec.ext HW.out (by repeat (first | exact Ext.refl _ | assumption | refine Ext.alloc ?_ _ | refine Ext.drew ?_ | refine Ext.drewN ?_ _ | refine Ext.trans ?_ (by assumption)))) hm'.out hby.out)).mono ?_; rintro e w1 ⟨rfl, hq1⟩; obtain ⟨hf1, hf2, hf3⟩ := hq1.facts; rw [HA.out, HU.out]) | (refine ⟨trivial, ?_⟩; gi_at_call 19; refine (callsIn_wide.2 (makes_any m' c' A' row.cells _ (Vec.ext HW.out (by repeat (first | exact Ext.refl _ | assumption | refine Ext.alloc ?_ _ | refine Ext.drew ?_ | refine Ext.drewN ?_ _ | refine Ext.trans ?_ (by assumption)))) hm'.out hby.out)).mono ?_; rintro e w2 ⟨rfl, hq2⟩; have hq9 := Ext.trans hq1 hq2; obtain ⟨hg1, hg2, hg3⟩ := hq9.facts; rw [HA.out, HM.out]))
        have hxx : Ext wq w2 := Ext.trans (((Ext.refl wq).alloc _).alloc _) hq9
        have hxy : Ext wq (w2.setCell ⟨wq.heap.size + 1, 1, none⟩ (.int .i64 (mkL row.cells))) := Below.setCell hxx (p := ⟨wq.heap.size + 1, 1, none⟩) (by simp) _
        have HT := Lib.hid (show Typed 91 (w2.setCell ⟨wq.heap.size + 1, 1, none⟩ (.int .i64 (mkL row.cells))) (wq.heap.size + 1) from Typed.setCell (Typed.ext (by have := Typed.new_ 91 (wq.alloc (Obj.cells #[Value.bool row.back, Value.slice A' m' c'] 46)) #[Value.int IntKind.i64 q, Value.int IntKind.i64 0, Value.int IntKind.i64 0]; simpa using this) hq9) _ _)
        obtain ⟨fn, tmps, assign, body, hy, hR⟩ := HY.out pre ⟨k, q, mkL row.cells, 0⟩ _ (HJ0.out pre wq (w2.setCell ⟨wq.heap.size + 1, 1, none⟩ (.int .i64 (mkL row.cells))) none HJ.out.1 (ext_grown hxy) (fun r e => by cases e)) HPL.out
        have HRR := Lib.hid hR
        have HXY := Lib.hid hxy
        clear hR hxy hxx
        dsimp only [encC] at hy
        rw [hy]
        gi_wp2
        refine HRR.out.mono ?_
        rintro e W3 (⟨rfl, hJ3, hk3⟩ | ⟨rfl, hJx3⟩)
        · obtain ⟨hk1, hk2⟩ := block_cells (HK2.out _ _ _ hk3 HT.out)
          have HJ3 := Lib.hid hJ3
          have HB3 := Lib.hid (HK1.out _ _ hk3)
          clear hJ3 hk3 hy
          gi_wp2
          go_roundw
          case rel =>
            refine ⟨k + 1, mkL row.cells, pre ++ [⟨k, q, mkL row.cells, 0⟩], by go_num, rfl, by omega, by have := hpl2.out; simp; omega, Lib.hid ?_, Lib.hid ⟨HJ3.out, ?_, ?_⟩⟩
            · rw [← HV.out, HD.out, vis_cons, H2.out, if_neg (by simp), List.append_assoc]
              rfl
            · exact (HJ.out.2.1.trans ((Below.mono HXY.out (by have := HJ.out.2.2; omega)))).trans HB3.out
            · have h1 := HJ.out.2.2
              have h2 := Below.size HXY.out
              have h3 := HB3.out.size
              omega
          case measure => simp [intOf]; omega
        · gi_wp2
          refine bodyPost_ret (results_none rfl _ _ _) rfl ?_
          refine ⟨⟨_, rfl⟩, .inr ⟨_, ?_, hJx3⟩⟩
          rw [← HV.out, HD.out]
          exact List.prefix_append_right_inj pre |>.2 (vis_head H2.out)
    · obtain rfl : k = m := by omega
      have HE := Lib.hid (show pre = visG 0 s rows by
        have := HV.out
        rw [List.drop_of_length_le (by rw [HL.out]; omega)] at this
        simpa [visG] using this)
      gi_wp2
      go_end0
      exact ⟨⟨_, rfl⟩, .inl ⟨_, HE.out, HJ.out.1⟩⟩
end Go.Proofs.YtjjhoonkooihjaaGreatDoor
/- The iterator over rows as it is ranged over; the contract of Check of charts. -/
namespace Go.Proofs.YtjjhoonkooihjaaGreatDoor
set_option maxRecDepth 100000
open Go.RowKit Go.ChangeShapes Go.WideShapes Go.Joins Go.Shelf
attribute [local go_sem] Oper.semAt_some
theorem counted_any (s : Int) (A : Option Addr) (m c : Nat) (w : World) :
    Calls Tryz.prog 45 #[.agg #[.int .i64 s, .slice A m c]] w fun e w' => e = .returned (.func (.func 69) #[] #[.pointer (some ⟨w.heap.size, 0, none⟩)]) ∧ w' = w.alloc (.cells #[.int .i64 s, .slice A m c] 24) := by
  go_enter Tryz.func45, Tryz.ntmps45
  go_wp2
  go_ret
  exact ⟨rfl, rfl⟩
theorem counted_stops (n Bc n₀ : Nat) (s : Int) (A : Option Addr) (m c : Nat) (rows : List Ro) (Kp : World → World → Prop) (hn : 1 ≤ n)
    (hK1 : ∀ A B, Kp A B → Below n₀ A B) (hK2 : ∀ (A B : World) (b : Nat), Kp A B → Typed 91 A b → B.heap[b]? = A.heap[b]?) (w : World) (hBc : Bc < w.heap.size) (hn₀ : n₀ ≤ w.heap.size)
    (hc0 : w.cell? ⟨Bc, 0, none⟩ = some (.int .i64 s)) (hc1 : w.cell? ⟨Bc, 1, none⟩ = some (.slice A m c)) (hr : Rws w (fun b => b < n₀) A m rows) :
    SeqStopsK Fence.wide n Tryz.prog 69 #[.pointer (some ⟨Bc, 0, none⟩)] encC Kp (fun ys => ys = visG 0 s rows) (fun pre => pre <+: visG 0 s rows) rows.length w := fun l J Jx W hW hJ _ hY h0 =>
  counted1_in n l Bc n₀ s A m c rows Kp hn hK1 hK2 J Jx W hJ (Nat.le_trans hn₀ hW.size) hY ((hW.cell (p := ⟨Bc, 0, none⟩) hBc).trans hc0) ((hW.cell (p := ⟨Bc, 1, none⟩) hBc).trans hc1) (hr.ext hW) h0
theorem KpT.trans {n₀ : Nat} {T : TypeId} {A B C : World} (h : KpT n₀ T A B) (k : KpT n₀ T B C) : KpT n₀ T A C := by
  refine ⟨h.1.trans k.1, fun b ht => ?_⟩
  have h1 := h.2 b ht
  have ht' : Typed T B b := by obtain ⟨cs, f, hc⟩ := ht; exact ⟨cs, f, by rw [h1]; exact hc⟩
  rw [k.2 b ht', h1]
theorem KpT.put {n₀ : Nat} {T : TypeId} {w : World} (hn : n₀ ≤ w.heap.size) (W : World) (l : Nat) (o o' : Obj) (hl : w.heap.size ≤ l) (h : W.heap[l]? = some o) (hc : o.isCells = false) (hw : o.isWalk = false) : KpT n₀ T W (W.putObj l o') := by
  refine ⟨belowK_b hn W l o o' hl h hc hw, fun b ht => World.putObj_heap_other (fun e => ?_)⟩
  subst e
  obtain ⟨cs, f, ht⟩ := ht
  rw [h] at ht
  cases ht
  simp [Obj.isCells] at hc
theorem KpT.alloc {n₀ : Nat} {T : TypeId} {W : World} (hn : n₀ ≤ W.heap.size) (o : Obj) : KpT n₀ T W (W.alloc o) :=
  ⟨(Below.refl _ _).alloc hn _, fun b ht => by obtain ⟨cs, f, ht⟩ := ht; exact Below.heap_alloc _ _ _ (Array.getElem?_eq_some_iff.1 ht).1⟩
theorem KpT.refl (n₀ : Nat) (T : TypeId) (W : World) : KpT n₀ T W W := ⟨Below.refl _ _, fun _ _ => rfl⟩
theorem cell_more {W : World} {a : Addr} {v : Value} (o : Obj) (h : W.cell? a = some v) : (W.alloc o).cell? a = some v := cell_kept h (World.grownBy_alloc W o none) (fun r e => by cases e)
theorem frozen_more {W : World} {a : Addr} {v : Value} (o : Obj) (h : W.cell? a = some v) (hf : W.frozen? a = false) : (W.alloc o).frozen? a = false := (frozen_kept h (World.grownBy_alloc W o none) (fun r e => by cases e)).trans hf
/-- what the frame of Check is in a round -/
def chkF (w : World) (s : Int) (A : Option Addr) (m c : Nat) (v4 v19 v20 : Value) : Act :=
  { tmps := #[.agg #[.int .i64 s, .slice A m c], .pointer (some ⟨w.heap.size, 0, none⟩), .pointer (some ⟨w.heap.size + 1, 0, none⟩), undef, v4, .pointer (some ⟨w.heap.size, 1, none⟩), .slice A m c, .int .i64 m, .bool false,
      .pointer (some ⟨w.heap.size, 0, none⟩), .int .i64 s, .bool false, .bool false, .pointer (some ⟨w.heap.size, 0, none⟩), .int .i64 s, .bool false, .bool false, .agg #[.int .i64 s, .slice A m c],
      .func (.func 69) #[] #[.pointer (some ⟨w.heap.size + 1 + 1, 0, none⟩)], v19, v20, undef, undef, undef, undef, undef], defers := [] }
theorem enters_counted : ∀ args w, (callFunc 69 args).run Tryz.prog w = .ok (.enter 69 args) w := enters_of Tryz.func69 (by kernel_rfl) rfl
theorem Typed.lt {T : TypeId} {w : World} {b : Nat} (h : Typed T w b) : b < w.heap.size := by
  obtain ⟨cs, f, h⟩ := h
  exact (Array.getElem?_eq_some_iff.1 h).1
/-- what Check holds between two rounds -/
def chkI (w : World) (pre : List Cn) (W : World) : Prop := ((∀ y ∈ pre, y.e = 0) ∧ W.cell? ⟨w.heap.size + 1, 0, none⟩ = some (.int .i64 0) ∧ W.frozen? ⟨w.heap.size + 1, 0, none⟩ = false) ∧ Below w.heap.size w W
def chkX (w : World) (c : Code) (pre : List Cn) (W : World) : Prop := (∃ y, c = .ret ∧ y ∈ pre ∧ y.e ≠ 0 ∧ W.cell? ⟨w.heap.size + 1, 0, none⟩ = some (.int .i64 y.e)) ∧ Below w.heap.size w W
def chkA (w : World) (s : Int) (A : Option Addr) (m c : Nat) (x : Cn) (a' : Act) (W : World) : Prop :=
  ∃ Bx, w.heap.size + 1 < Bx ∧ W.cell? ⟨Bx, 2, none⟩ = some (.int .i64 x.e) ∧ a' = chkF w s A m c (.pointer (some ⟨Bx, 0, none⟩)) (.int .i64 x.i) (.agg #[.int .i64 x.b, .int .i64 x.a, .int .i64 x.e])
theorem cell3_new (W : World) (u v x : Value) (T : TypeId) : (W.alloc (.cells #[u, v, x] T)).cell? ⟨W.heap.size, 2, none⟩ = some x := by
  have h : (W.alloc (.cells #[u, v, x] T)).heap[W.heap.size]? = some (.cells #[u, v, x] T) := heap_alloc_new W _
  rw [cell_of_row _ W.heap.size _ _ T (0, 0) h]
  rfl
set_option maxRecDepth 100000 in
set_option maxHeartbeats 4000000 in
theorem chk_walk (s : Int) (A : Option Addr) (m c : Nat) (rows : List Ro) (w : World) (hr : Rws w (fun _ => True) A m rows) (hm : m ≤ 100) (hs0 : 0 ≤ s) (hs1 : s ≤ 200) :
    Calls Tryz.prog 25 #[.agg #[.int .i64 s, .slice A m c]] w fun e w' => e = .returned (.int .i64 (chkGo s rows)) ∧ Ext w w' := by
  have HR := Lib.hid (hr.mono (K' := fun b => b < w.heap.size) (fun b h _ => h))
  clear hr
  have hs2 : decide (s < 0) = false := by simp; omega
  have hs3 : decide (200 < s) = false := by simp; omega
  have hm3 : decide ((100 : Int) < (m : Int)) = false := by simp; omega
  refine (callsIn_wide (n := 3)).1 ?_
  refine callsIn_of_wp_marks Tryz.func25 rfl trivial ?_ rfl
  simp only [Tryz.ntmps25, List.size_toArray, List.length_cons, List.length_nil, Nat.reduceAdd, Nat.reduceSub, Array.replicate_succ, Array.replicate_zero, List.push_toArray, List.append_toArray, List.nil_append, List.cons_append]
  gi_wp2_with (refine ⟨trivial, ?_⟩; gi_at_call 45; refine (callsIn_wide.2 (counted_any s A m c _)).mono ?_; rintro e w' ⟨rfl, rfl⟩)
  clear hs2 hs3 hm3
  obtain ⟨W0, hW0⟩ : ∃ W0, ((w.alloc (Obj.cells #[Value.int IntKind.i64 s, Value.slice A m c] 24)).alloc (Obj.cells #[Value.int IntKind.i64 0] 26)).alloc (Obj.cells #[Value.int IntKind.i64 s, Value.slice A m c] 24) = W0 := ⟨_, rfl⟩
  have hsz : W0.heap.size = w.heap.size + 3 := by rw [← hW0]; simp
  have hB0 : Below w.heap.size w W0 := by rw [← hW0]; exact (((Below.refl _ w).alloc (Nat.le_refl _) _).alloc (by simp) _).alloc (by simp; omega) _
  have hc0 : W0.cell? ⟨w.heap.size + 1 + 1, 0, none⟩ = some (.int .i64 s) := by rw [← hW0]; simp [go_sem]
  have hc1 : W0.cell? ⟨w.heap.size + 1 + 1, 1, none⟩ = some (.slice A m c) := by rw [← hW0]; simp [go_sem]
  have hc2 : W0.cell? ⟨w.heap.size + 1, 0, none⟩ = some (.int .i64 0) := by rw [← hW0]; simp [go_sem]
  have hc3 : W0.frozen? ⟨w.heap.size + 1, 0, none⟩ = false := by rw [← hW0]; simp [go_sem]
  rw [hW0]
  clear hW0
  refine wpIn_rangeFunc_ownH (F := Fence.wide) (n := 3) rfl (by omega) (gf := 69) (lb := #[.pointer (some ⟨w.heap.size + 1 + 1, 0, none⟩)]) rfl trivial enters_counted
    (counted_stops 2 (w.heap.size + 1 + 1) w.heap.size s A m c rows (KpT w.heap.size 91) (by omega) (fun _ _ h => h.1) (fun _ _ b h => h.2 b) W0 (by omega) (by omega) hc0 hc1 (HR.out.ext hB0))
    (fun h k => KpT.trans h k) (KpT.put (by omega)) (Below.refl _ _) (fun _ => rfl)
    (chkI w) (chkX w)
    (OwnFrom.and (Own.from (fun s A B row hs hg hr => ⟨hs.1, cell_kept hs.2.1 hg hr, (frozen_kept hs.2.1 hg hr).trans hs.2.2⟩) _) (ownFrom_below (by omega) (by omega)))
    (fun c => OwnFrom.and (Own.from (fun s A B row hs hg hr => by obtain ⟨y, h1, h2, h3, h4⟩ := hs; exact ⟨y, h1, h2, h3, cell_kept h4 hg hr⟩) _) (ownFrom_below (by omega) (by omega)))
    ⟨⟨by simp, hc2, hc3⟩, hB0⟩
    (chkA w s A m c)
    (fun x a' => Own.from (fun _ A B row hs hg hr => by obtain ⟨Bx, h1, h2, h3⟩ := hs; exact ⟨Bx, h1, cell_kept h2 hg hr, h3⟩) _) ?assign ?body ?done ?stop
  case assign =>
    rintro l pre x W K ⟨⟨hp, hi1, hi2⟩, hB⟩ hK
    have hlt := World.block_lt_of_cell? W _ hi1
    simp only at hlt
    unfold encC
    gi_wp2
    exact hK _ _ ((KeepsOthers.alloc _ _).from _) (KpT.alloc (by omega) _) ⟨⟨hp, cell_more _ hi1, frozen_more _ hi1 hi2⟩, hB.alloc (by omega) _⟩ ⟨W.heap.size, by omega, cell3_new _ _ _ _ _, rfl⟩
  case body =>
    rintro l pre x a' W _ _ ⟨⟨hp, hi1, hi2⟩, hB⟩ ⟨Bx, hBx, hcx, rfl⟩ _
    unfold chkF
    by_cases hxe : x.e = 0
    · have HX := Lib.hid hxe
      rw [hxe] at hcx
      clear hxe
      gi_wp2
      exact ⟨(KeepsOthers.refl _).from _, KpT.refl _ _ _, ⟨fun y hy => (List.mem_append.1 hy).elim (hp y) (fun e => by simp at e; subst e; exact HX.out), hi1, hi2⟩, hB⟩
    · have hb : (x.e != 0) = true := by simpa using hxe
      gi_wp2
      exact ⟨(KeepsOthers.setCell _ _ _).from _, ⟨x, rfl, by simp, hxe, World.cell?_setCell_same' _ _ _ (by rw [hi1]; rfl)⟩, hB.setCell (p := ⟨w.heap.size + 1, 0, none⟩) (by simp) _⟩
  case done =>
    rintro D ys W hD rfl ⟨⟨hp, hi1, hi2⟩, hB⟩ hK
    have HG := Lib.hid (vis_ok hp)
    gi_wp2
    have hK' := (KeepsOthers.setCell W ⟨w.heap.size + 1, 0, none⟩ (.int .i64 0)).same D _ hK rfl
    refine ⟨by simp, .inl ⟨_, _, rfl, run_takeDeferred hK', ?_⟩⟩
    have hc5 := cell_kept (World.cell?_setCell_same' W ⟨w.heap.size + 1, 0, none⟩ (.int .i64 0) (by rw [hi1]; rfl)) (grownBy_putObj' _ D (.deferred none)) (fun r e => by cases e; exact ⟨_, hK', rfl⟩)
    refine ⟨.int .i64 0, ?_, by rw [HG.out], (hB.setCell (p := ⟨w.heap.size + 1, 0, none⟩) (by simp) _).trans (belowK_b (w := w) (Nat.le_refl _) _ D _ _ (by omega) hK' rfl rfl)⟩
    simp [results, Tryz.f25, go_sem, hc5]
  case stop =>
    rintro D c pre W hD hpre ⟨⟨y, rfl, hy, hye, hi1⟩, hB⟩ hK
    have HG := Lib.hid (vis_bad (hpre.subset hy) hye)
    gi_wp2
    refine ⟨by simp, .inl ⟨_, _, rfl, run_takeDeferred hK, ?_⟩⟩
    have hc5 := cell_kept hi1 (grownBy_putObj' _ D (.deferred none)) (fun r e => by cases e; exact ⟨_, hK, rfl⟩)
    refine ⟨.int .i64 y.e, ?_, by rw [HG.out], hB.trans (belowK_b (w := w) (Nat.le_refl _) W D _ _ (by omega) hK rfl rfl)⟩
    simp [results, Tryz.f25, go_sem, hc5]
set_option maxRecDepth 100000 in
set_option maxHeartbeats 1000000 in
theorem ccheck_any (s : Int) (A : Option Addr) (m c : Nat) (rows : List Ro) (w : World) (hr : Rws w (fun _ => True) A m rows) :
    Calls Tryz.prog 25 #[.agg #[.int .i64 s, .slice A m c]] w fun e w' => e = .returned (.int .i64 (chkC s rows)) ∧ Ext w w' := by
  have hl := hr.len
  have hmm := hr.1
  by_cases h1 : 100 < m
  · have HE := Lib.hid (show chkC s rows = 4 by rw [chkC, if_pos (by omega)])
    unfold maxLen at hmm
    clear hr hl
    go_enter Tryz.func25, Tryz.ntmps25
    go_wp2_with fail
    exact bodyPost_ret (v := .int .i64 4) (by simp [results, Tryz.f25, go_sem]) rfl ⟨by rw [HE.out], by repeat (first | exact Ext.refl _ | refine Ext.alloc ?_ _ | refine Below.setCell ?_ (by simp) _)⟩
  by_cases h2 : s < 0
  · have HE := Lib.hid (show chkC s rows = 8 by rw [chkC, if_neg (by omega), if_pos (.inl h2)])
    have hm3 : decide ((100 : Int) < (m : Int)) = false := by simp; omega
    clear hr hl
    go_enter Tryz.func25, Tryz.ntmps25
    go_wp2_with fail
    exact bodyPost_ret (v := .int .i64 8) (by simp [results, Tryz.f25, go_sem]) rfl ⟨by rw [HE.out], by repeat (first | exact Ext.refl _ | refine Ext.alloc ?_ _ | refine Below.setCell ?_ (by simp) _)⟩
  by_cases h3 : 200 < s
  · have HE := Lib.hid (show chkC s rows = 8 by rw [chkC, if_neg (by omega), if_pos (.inr h3)])
    have hm3 : decide ((100 : Int) < (m : Int)) = false := by simp; omega
    have hs2 : decide (s < 0) = false := by simp; omega
    clear hr hl
    go_enter Tryz.func25, Tryz.ntmps25
    go_wp2_with fail
    exact bodyPost_ret (v := .int .i64 8) (by simp [results, Tryz.f25, go_sem]) rfl ⟨by rw [HE.out], by repeat (first | exact Ext.refl _ | refine Ext.alloc ?_ _ | refine Below.setCell ?_ (by simp) _)⟩
  have := chk_walk s A m c rows w hr (by omega) (by omega) (by omega)
  have e : chkC s rows = chkGo s rows := by rw [chkC, if_neg (by omega), if_neg (by omega)]
  rw [e]
  exact this
end Go.Proofs.YtjjhoonkooihjaaGreatDoor
/- The frame of a law's row: what it returns is true, and what was in memory before the call reads as it did. -/
namespace Go.Proofs.YtjjhoonkooihjaaGreatDoor
set_option maxRecDepth 100000
open Go.ChangeShapes Go.WideShapes Go.ChangeAt Go.RowKit

theorem laid_out : laidOutB Tryz.prog = true := by kernel_rfl
theorem own : ownKnob Tryz.prog.godebug = none := by kernel_rfl

section
variable {H : Type} {enc : TypeId × Value → H} {P : Program}
theorem trodAll_stays (hl : laidOutB P = true) {W W' : World} (hb : Below W.heap.size W W') {sp : Nat → Bool} :
    ∀ {ts : List TypeId} {vs : List Value} {ds : List (DataW H)} {ps : List MemPlace}, (∀ t ∈ ts, P.readableRec t = true ∧ t < P.types.size) →
      DataW.TrodAll enc P W 0 (fun _ => true) true ts vs ds ps → (∀ x ∈ ps, x.block < W.heap.size) → (∀ x ∈ ps, sp x.block = true) → DataW.TrodAll enc P W' 0 sp true ts vs ds ps := by
  intro ts
  induction ts with
  | nil =>
    intro vs ds ps _ h _ _
    obtain ⟨rfl, rfl, rfl⟩ := trodAll_nil h
    exact trodAll_mk0
  | cons t ts ih =>
    intro vs ds ps hr h hlt hsp
    obtain ⟨v, vs', d, ds', p, q, rfl, rfl, rfl, h1, h2⟩ := trodAll_cons h
    obtain ⟨hr1, hr2⟩ := hr t (by simp)
    refine trodAll_cons_mk (WideElems.Trod_stays hl hr1 hr2 h1 (fun x hx => hb.same (hlt x (by simp [hx]))) (fun x hx => hsp x (by simp [hx]))) ?_
    exact ih (fun t ht => hr t (by simp [ht])) h2 (fun x hx => hlt x (by simp [hx])) (fun x hx => hsp x (by simp [hx]))

theorem post_of_below {f : Func} {s : ChangeSpec} {apart fresh handsOn again : Bool} {W W' : World} {args : Array Value} {v : Value} {ds gs : List (DataW H)} {before pa pv : List MemPlace}
    (hW : DataW.Whole enc P f.params.toList s.vars apart W args.toList ds gs before)
    (hres : ∀ (b : Nat) (sp : Nat → Bool) (hd : Bool), DataW.TrodAll enc P W' b sp hd f.resultTypes.toList (v.resultList f.resultTypes.size) (s.fn H (ds ++ gs)).results [])
    (hargs : ∀ sp : Nat → Bool, (∀ p ∈ before, sp p.block = true) → DataW.TrodAll enc P W' 0 sp true f.params.toList args.toList (s.fn H (ds ++ gs)).args pa)
    (hvars : ∀ sp : Nat → Bool, (∀ p ∈ before, sp p.block = true) → DataW.TrodVars enc P W' sp s.vars (s.fn H (ds ++ gs)).vars pv)
    (hps : before = pa ++ pv) (hb : Below W.heap.size W W')
    (hok : ∀ (j : Nat) (t : TypeId) (r : Value), f.resultTypes[j]? = some t → (v.resultList f.resultTypes.size)[j]? = some r → Value.okWide P W' .any 0 t r) :
    s.post enc P f apart fresh handsOn again W args v W' := by
  have hlt : ∀ p ∈ before, p.block < W.heap.size := fun p hp => hW.lt p hp
  have hold : ∀ p ∈ before, (fun b => decide (b < W.heap.size)) p.block = true := fun p hp => by simpa using hlt p hp
  refine ⟨ds, gs, before, [], pa, pv, hW, hres _ _ _, hargs _ hold, hvars _ hold, World.keptBut_mono (fun p hp => ⟨hp, ?_⟩) (hb.frame (· ∈ before)), fun _ => ?_⟩
  · rw [hps, List.mem_append] at hp
    exact Or.inr hp
  · obtain ⟨_, _, _, _, _, hz, hn⟩ := hW
    refine ⟨hok, _, _, ([] ++ pa) ++ pv, ⟨[] ++ pa, pv, trodAll_append (hargs _ (fun _ _ => rfl)) (hres _ _ _), hvars _ (fun _ _ => rfl), rfl, ?_, ?_⟩, ?_⟩
    · intro b off hp
      have hin : MemPlace.cell b off ∈ before := by rw [hps]; simpa using hp
      rw [hb.frozen (hlt _ hin)]
      exact hz b off hin
    · intro ha
      have := hn ha
      rw [hps] at this
      simpa using this
    · intro p hp _
      rw [hps]
      simpa using hp

/-- the step that all laws share: a call that returned true and left what was there meets the row -/
theorem law_post {f : Func} {s : ChangeSpec} {apart fresh handsOn again : Bool} {tb : TypeId} (hl : laidOutB P = true) (hf : f.resultTypes = #[tb]) (hu : P.underlying tb = some .bool)
    (hr : f.params.toList.all (fun t => P.readableRec t && decide (t < P.types.size)) = true) (hs0 : s.vars = [])
    {W W' : World} {args : Array Value} {ds gs : List (DataW H)} {before : List MemPlace} (hW : DataW.Whole enc P f.params.toList s.vars apart W args.toList ds gs before)
    (hs : s.fn H (ds ++ gs) = { results := [.lit (.bool true)], args := ds }) (hb : Ext W W') : s.post enc P f apart fresh handsOn again W args (.bool true) W' := by
  have hlt : ∀ p ∈ before, p.block < W.heap.size := fun p hp => hW.lt p hp
  have hW0 := hW
  obtain ⟨p, q, hA, hV, hpq, _, _⟩ := hW
  rw [hs0] at hV
  obtain ⟨rfl, rfl⟩ := trodVars_none hV
  have hpq' : before = p := by rw [hpq]; simp
  subst hpq'
  refine post_of_below (pa := before) (pv := []) hW0 (fun b sp hd => ?_) (fun sp hsp => ?_) (fun sp hsp => ?_) (by simp) hb (fun j t r h1 h2 => ?_)
  · rw [hs, hf]
    exact trodAll_mk1 (shut_bool hu true)
  · rw [hs]
    refine trodAll_stays hl hb (fun t ht => ?_) hA hlt hsp
    have := List.all_eq_true.1 hr t ht
    simpa using this
  · rw [hs, hs0]
    rfl
  · rw [hf] at h1 h2
    match j, h1, h2 with
    | 0, h1, h2 =>
      obtain rfl : tb = t := by simpa using h1
      obtain rfl : Value.bool true = r := by simpa [Value.resultList] using h2
      exact okWide_bool_mk hu true
end
end Go.Proofs.YtjjhoonkooihjaaGreatDoor
