/- The head of the texts on ranges over functions; what a call that returns stitches and an error has done. -/
import Derived.RangeFuncNested
import Derived.RangeFuncBound
import Derived.RangeFuncCalls
import Derived.RangeFuncLeaves
import Derived.Shelf.Abstract
import Derived.Shelf.RegionOpen
import Derived.WalkKit
import Derived.OwnWalkIn
import Derived.TacticsInMore
import Derived.LoopNIn
import Derived.LoopIn
import Derived.Test.YtjjhoonkooihjaaGreatDoorG03
import Derived.Test.YtjjhoonkooihjaaGreatDoorG09
import Derived.Maps.AppendAt
import Derived.Test.YtjjhoonkooihjaaGreatDoorG11
import Derived.Test.YtjjhoonkooihjaaGreatDoorG12
import Derived.Test.YtjjhoonkooihjaaGreatDoorG13
import Derived.Lib.BufferMore
namespace Go.Proofs.YtjjhoonkooihjaaGreatDoor
set_option maxRecDepth 100000
open Go.RowKit Go.ChangeShapes Go.WideShapes Go.Joins Go.Shelf
/-- a call has returned a list of stitches and an error -/
def FaceR (L : List St) (x : Int) (w : World) (e : Ending) (w' : World) : Prop := ∃ (A : Option Addr) (n c : Nat), e = .returned (.tuple #[.slice A n c, .int .i64 x]) ∧ Ext w w' ∧ Vec shSt w' A n L
/-- a call has returned a list of stitches -/
def StsL (l : List St) (w : World) (e : Ending) (w' : World) : Prop := ∃ (A : Option Addr) (n c : Nat), e = .returned (.slice A n c) ∧ Ext w w' ∧ Vec shSt w' A n l
end Go.Proofs.YtjjhoonkooihjaaGreatDoor
/- slices.Backward over stitches, and the contract of Turn. -/
namespace Go.Proofs.YtjjhoonkooihjaaGreatDoor
set_option maxRecDepth 100000
open Go.RowKit Go.ChangeShapes Go.WideShapes Go.Joins Go.Shelf
attribute [local go_sem] Oper.semAt_some
/-- a valid stitch -/
abbrev OkS := { s : St // okSt s = true }
def ok0 : OkS := ⟨⟨1, false, 0, 0⟩, rfl⟩
theorem ok_lift : ∀ {l : List St}, allB l = true → ∃ zs : List OkS, zs.map (·.1) = l := by
  intro l
  induction l with
  | nil => intro _; exact ⟨[], rfl⟩
  | cons s l ih =>
    intro h
    have h1 : okSt s = true ∧ allB l = true := by simpa [allB] using h
    obtain ⟨zs, hz⟩ := ih h1.2
    exact ⟨⟨s, h1.1⟩ :: zs, by simp [hz]⟩
/-- what a round is handed -/
def encB (x : Nat × OkS) : Array Value := #[.int .i64 (x.1 : Int), .agg #[.int .u8 x.2.1.k, .bool x.2.1.p, .int .i64 x.2.1.a, .int .i64 x.2.1.b]]
/-- what has come when k rounds are over -/
def upB (l : List OkS) (k : Nat) : List (Nat × OkS) := (List.range k).map (fun j => (l.length - 1 - j, l.getD (l.length - 1 - j) ok0))
theorem upB_succ (l : List OkS) (k : Nat) : upB l (k + 1) = upB l k ++ [(l.length - 1 - k, l.getD (l.length - 1 - k) ok0)] := by simp [upB, List.range_succ]
theorem upB_len (l : List OkS) (k : Nat) : (upB l k).length = k := by simp [upB]
theorem upB_all (l : List OkS) : (upB l l.length).map (fun x => otherSt x.2.1) = turnL (l.map (·.1)) := by
  unfold turnL upB
  apply List.ext_getElem
  · simp
  · intro i h1 h2
    have hi : i < l.length := by simpa using h2
    simp only [List.map_map, List.getElem_map, List.getElem_range, Function.comp_apply, List.getElem_reverse]
    rw [List.getD_eq_getElem?_getD, List.getElem?_eq_getElem (by omega)]
    simp
/-- what a round keeps: all that lay when the call began, and the block of the list -/
def KpB (n₀ Bs : Nat) (A B : World) : Prop := Below n₀ A B ∧ ∀ cs T f, A.heap[Bs]? = some (Obj.cells cs T f) → B.heap[Bs]? = some (Obj.cells cs T f)
theorem KpB.trans {n₀ Bs : Nat} {A B C : World} (h : KpB n₀ Bs A B) (k : KpB n₀ Bs B C) : KpB n₀ Bs A C := ⟨h.1.trans k.1, fun cs T f e => k.2 cs T f (h.2 cs T f e)⟩
theorem KpB.put {n₀ Bs : Nat} {w : World} (hn : n₀ ≤ w.heap.size) (W : World) (l : Nat) (o o' : Obj) (hl : w.heap.size ≤ l) (h : W.heap[l]? = some o) (hc : o.isCells = false) (hw : o.isWalk = false) : KpB n₀ Bs W (W.putObj l o') := by
  refine ⟨belowK_b hn W l o o' hl h hc hw, fun _ _ _ e => (World.putObj_heap_other (fun e2 => ?_)).trans e⟩
  subst e2
  rw [h] at e
  cases e
  cases hc
theorem KpB.ext {n₀ Bs : Nat} {A B : World} (hn : n₀ ≤ A.heap.size) (h : Ext A B) : KpB n₀ Bs A B := ⟨Below.mono h hn, fun _ _ _ e => (h.block Bs (Array.getElem?_eq_some_iff.1 e).1).trans e⟩
set_option maxRecDepth 100000 in
set_option maxHeartbeats 4000000 in
theorem back1_in (n l Bs n₀ : Nat) (A : Option Addr) (m c : Nat) (zs : List OkS) (hn : 1 ≤ n) (hm : m ≤ 1000) (J Jx : List (Nat × OkS) → World → Prop) (W : World)
    (hY : ∀ pre x W, J pre W → pre.length < zs.length → YieldAt Fence.wide (n - 1) Tryz.prog l (encB x) W fun e W' =>
      (e = .returned (.bool true) ∧ J (pre ++ [x]) W' ∧ KpB n₀ Bs W W') ∨ (e = .returned (.bool false) ∧ Jx (pre ++ [x]) W'))
    (hBs : ∃ T f, W.heap[Bs]? = some (Obj.cells #[.slice A m c] T f)) (hv : Vec shSt W A m (zs.map (·.1))) (hA : 0 < m → ∀ b off, A = some ⟨b, off, none⟩ → b < n₀) (h0 : J [] W) :
    CallsIn Fence.wide n Tryz.prog 73 #[.func (.yield l) #[] #[], .pointer (some ⟨Bs, 0, none⟩)] W fun e W' => (∃ v, e = .returned v) ∧
      ((∃ ys, ys = upB zs zs.length ∧ J ys W') ∨ (∃ pre, (∃ k, k ≤ zs.length ∧ pre = upB zs k) ∧ Jx pre W')) := by
  have HV := Lib.hid hv
  have HL := Lib.hid (show zs.length = m by have := hv.1; simpa using this)
  have HY := Lib.hid hY
  have HAT := Lib.hid hA
  have HB := Lib.hid hBs
  have hm2 : (m : Int) ≤ 1000 := by omega
  clear hv hY hA hBs
  have hx0 : W.cell? ⟨Bs, 0, none⟩ = some (.slice A m c) := by
    obtain ⟨T, f, h⟩ := HB.out
    rw [cell_of_row _ Bs _ _ T f h]
    rfl
  refine callsIn_of_wp Tryz.func73 rfl trivial ?_ rfl
  simp only [Tryz.ntmps73, List.size_toArray, List.length_cons, List.length_nil, Nat.reduceAdd, Nat.reduceSub, Array.replicate_succ, Array.replicate_zero, List.push_toArray, List.append_toArray, List.nil_append, List.cons_append]
  gi_wp2
  clear hx0
  gi_loopw [3] (fun i wr => ∃ (k : Nat) (z : Int), i = .int .i64 z ∧ z + 1 = k ∧ k ≤ m ∧ Hid (J (upB zs (m - k)) wr ∧ KpB n₀ Bs W wr)) (fun i _ => (intOf i + 1).toNat)
  case atStart => exact ⟨m, (m : Int) - 1, by go_num, by omega, Nat.le_refl _, Lib.hid ⟨by rw [Nat.sub_self]; exact h0, Below.refl _ _, fun _ _ _ e => e⟩⟩
  case round =>
    obtain ⟨k, z, rfl, hz, hk, HJ⟩ := hrel
    have hx1 : wr.cell? ⟨Bs, 0, none⟩ = some (.slice A m c) := by
      obtain ⟨T, f, h⟩ := HB.out
      have h9 := HJ.out.2.2 _ _ _ h
      rw [cell_of_row _ Bs _ _ T f h9]
      rfl
    rcases k with _ | k
    · obtain rfl : z = -1 := by omega
      gi_wp2
      go_end0
      exact ⟨⟨_, rfl⟩, .inl ⟨_, rfl, by have := HJ.out.1; rw [HL.out]; exact this⟩⟩
    · obtain rfl : z = (k : Int) := by omega
      have hlt : k < zs.length := by rw [HL.out]; omega
      obtain ⟨b, off, rfl, hb1, hc⟩ := Sts.all HV.out (by omega)
      obtain ⟨c1, c2, c3, c4⟩ := hc k (by omega)
      have hbn := HAT.out (by omega) b off rfl
      replace c1 := (HJ.out.2.1.cell (p := ⟨b, _, none⟩) hbn).trans c1
      replace c2 := (HJ.out.2.1.cell (p := ⟨b, _, none⟩) hbn).trans c2
      replace c3 := (HJ.out.2.1.cell (p := ⟨b, _, none⟩) hbn).trans c3
      replace c4 := (HJ.out.2.1.cell (p := ⟨b, _, none⟩) hbn).trans c4
      clear hc hz
      have HE := Lib.hid (show upB zs (m - k) = upB zs (m - (k + 1)) ++ [(k, zs.getD k ok0)] by
        rw [show m - k = m - (k + 1) + 1 by omega, upB_succ, HL.out, show m - 1 - (m - (k + 1)) = k by omega])
      have hgd : (zs.map (·.1)).getD k st0 = (zs.getD k ok0).1 := by
        rw [List.getD_eq_getElem?_getD, List.getD_eq_getElem?_getD, List.getElem?_map, List.getElem?_eq_getElem hlt]; rfl
      rw [hgd] at c1 c2 c3 c4
      clear hgd
      generalize zs.getD k ok0 = s at *
      obtain ⟨⟨sk, sp, sa, sb⟩, hok⟩ := s
      simp only at c1 c2 c3 c4
      have q0 : (0 : Int) ≤ (k : Int) := by omega
      have q1 : (k : Int) < (m : Int) := by omega
      obtain ⟨fn, tmps, assign, body, hy, hR⟩ := HY.out (upB zs (m - (k + 1))) (k, ⟨⟨sk, sp, sa, sb⟩, hok⟩) wr HJ.out.1 (by rw [upB_len, HL.out]; omega)
      have HRR := Lib.hid hR
      clear hR
      dsimp only [encB] at hy
      gi_wp2
      refine HRR.out.mono ?_
      rintro e W3 (⟨rfl, hJ3, hk3⟩ | ⟨rfl, hJx3⟩)
      · have HJ3 := Lib.hid hJ3
        have HK3 := Lib.hid hk3
        clear hJ3 hk3 hy
        gi_wp2
        go_roundw
        case rel => exact ⟨k, (k : Int) - 1, by go_num, by omega, by omega, Lib.hid ⟨by rw [HE.out]; exact HJ3.out, HJ.out.2.trans HK3.out⟩⟩
        case measure => simp [intOf]
      · have HJ3 := Lib.hid hJx3
        clear hJx3
        gi_wp2
        refine bodyPost_ret (results_none rfl _ _ _) rfl ?_
        exact ⟨⟨_, rfl⟩, .inr ⟨_, ⟨m - k, by rw [HL.out]; omega, rfl⟩, by rw [HE.out]; exact HJ3.out⟩⟩
theorem enters_back : ∀ args w, (callFunc 73 args).run Tryz.prog w = .ok (.enter 73 args) w := enters_of Tryz.func73 (by kernel_rfl) rfl
set_option maxHeartbeats 1000000 in
theorem back_any (A : Option Addr) (m c : Nat) (w : World) :
    Calls Tryz.prog 50 #[.slice A m c] w fun e w' => e = .returned (.func (.func 73) #[] #[.pointer (some ⟨w.heap.size, 0, none⟩)]) ∧ w' = w.alloc (.cells #[.slice A m c] 44) := by
  go_enter Tryz.func50, Tryz.ntmps50
  go_wp2
  go_ret
  exact ⟨rfl, rfl⟩
theorem back_stops (n Bs n₀ : Nat) (A : Option Addr) (m c : Nat) (zs : List OkS) (hn : 1 ≤ n) (hm : m ≤ 1000) (w : World)
    (hBs : ∃ T f, w.heap[Bs]? = some (Obj.cells #[.slice A m c] T f)) (hv : Vec shSt w A m (zs.map (·.1))) (hA : 0 < m → ∀ b off, A = some ⟨b, off, none⟩ → b < n₀) :
    SeqStopsK Fence.wide n Tryz.prog 73 #[.pointer (some ⟨Bs, 0, none⟩)] encB (KpB n₀ Bs) (fun ys => ys = upB zs zs.length) (fun pre => ∃ k, k ≤ zs.length ∧ pre = upB zs k) zs.length w := fun l J Jx W hW hJ _ hY h0 =>
  back1_in n l Bs n₀ A m c zs hn hm J Jx W hY (by obtain ⟨T, f, h⟩ := hBs; exact ⟨T, f, (hW.block Bs (Array.getElem?_eq_some_iff.1 h).1).trans h⟩) (hv.ext hW) hA h0
end Go.Proofs.YtjjhoonkooihjaaGreatDoor
/- The contract of Turn. -/
namespace Go.Proofs.YtjjhoonkooihjaaGreatDoor
set_option maxRecDepth 100000
open Go.RowKit Go.ChangeShapes Go.WideShapes Go.Joins Go.Shelf
attribute [local go_sem] Oper.semAt_some
/-- the cells of so many stitches of zeros -/
def stZeros (n : Nat) : Array Value := madeCells #[.int .u8 0, .bool false, .int .i64 0, .int .i64 0] (n * 4)
theorem run_make_sts (n : Nat) (hn : n ≤ 1000) (w : World) : (Instr.makeSlice 44 (.int .i64 0) (.int .i64 (n : Int))).run Tryz.prog w = .ok (.slice (some ⟨w.heap.size, 0, none⟩) 0 n) (w.alloc (.cells (stZeros n) 54)) := by
  obtain ⟨i0, hi, hz0, hz1, hz2⟩ := info_parts info_st
  have hr := run_make (P := Tryz.prog) w 44 54 i0 (.agg #[.int .u8 0, .bool false, .int .i64 0, .int .i64 0]) Tryz.underlying44 hi hz0 .i64 .i64 0 n (by omega) (by omega) (by rw [hz2]; omega) (by omega)
  simp only [Int.toNat_natCast, hz1] at hr
  exact hr
theorem made_own (w : World) (B n : Nat) (hB : B ≤ w.heap.size) (hn : n ≤ 1000) : (w.alloc (.cells (stZeros n) 54)).ownsRow B 54 4 (.slice (some ⟨w.heap.size, 0, none⟩) 0 n) 0 [] :=
  ⟨rfl, .inr ⟨w.heap.size, n, stZeros n, rfl, hB, heap_alloc_new w _, Nat.zero_le _, by unfold maxLen; omega, by simp [stZeros, madeCells], by simp⟩⟩
/-- a block of cells -/
def Blk (W : World) (B : Nat) (T : TypeId) (cs : Array Value) : Prop := W.heap[B]? = some (.cells cs T (0, 0))
theorem Blk.lt {W : World} {B : Nat} {T : TypeId} {cs : Array Value} (h : Blk W B T cs) : B < W.heap.size := (Array.getElem?_eq_some_iff.1 h).1
theorem Blk.kept {W W' : World} {row : Option Nat} {B : Nat} {T : TypeId} {cs : Array Value} (h : Blk W B T cs) (hg : W.grownBy W' row) (hne : some B ≠ row) : Blk W' B T cs := (hg.block B h.lt hne).trans h
theorem Blk.cell {W : World} {B : Nat} {T : TypeId} {cs : Array Value} (h : Blk W B T cs) (o : Nat) : W.cell? ⟨B, o, none⟩ = cs[o]? := cell_of_row _ B o _ T (0, 0) h
theorem Blk.frozen {W : World} {B : Nat} {T : TypeId} {cs : Array Value} (h : Blk W B T cs) (o : Nat) : W.frozen? ⟨B, o, none⟩ = false := by simp [World.frozen?, show W.heap[B]? = _ from h]
theorem Blk.own {β : Type} (B : Nat) (T : TypeId) (f : β → Array Value) : Own (fun s W => Blk W B T (f s)) := fun s X Y row hs hg hrow =>
  hs.kept hg (fun e' => by obtain ⟨o, ho, hc⟩ := hrow B e'.symm; rw [show X.heap[B]? = _ from hs] at ho; cases ho; cases hc)
theorem cells4_new (W : World) (a b c d : Value) (T : TypeId) (j : Nat) (u : Value) (h : [a, b, c, d][j]? = some u) : (W.alloc (.cells #[a, b, c, d] T)).cell? ((⟨W.heap.size, 0, none⟩ : Addr).add j) = some u := by
  have h1 : (W.alloc (.cells #[a, b, c, d] T)).heap[W.heap.size]? = some (.cells #[a, b, c, d] T) := heap_alloc_new W _
  have h2 : (⟨W.heap.size, 0, none⟩ : Addr).add j = ⟨W.heap.size, j, none⟩ := by simp [Addr.add]; intro h; omega
  rw [h2, cell_of_row _ W.heap.size j _ T (0, 0) h1, ← h]
  rcases j with _ | _ | _ | _ | j <;> rfl
theorem grown_set (W : World) (b o : Nat) (v : Value) : W.grownBy (W.setCell ⟨b, o, none⟩ v) (some b) :=
  ⟨rfl, rfl, rfl, (KeepsWalks.setCell W _ v).size, fun k _ hk => Below.heap_setCell _ _ _ k (fun e => hk (by rw [e]))⟩
theorem grown_trans {A B C : World} {r : Option Nat} (h : A.grownBy B r) (k : B.grownBy C r) : A.grownBy C r :=
  ⟨k.os.trans h.os, k.tape.trans h.tape, k.output.trans h.output, Nat.le_trans h.size k.size, fun b hb hr => (k.block b (Nat.lt_of_lt_of_le hb h.size) hr).trans (h.block b hb hr)⟩
/-- the frame of Turn in a round -/
def turnF (A : Option Addr) (m c g : Nat) (v7 v20 v21 : Value) : Act :=
  { tmps := #[.slice A m c, undef, .slice none 0 0, .int .i64 0, .int .i64 0, .pointer (some ⟨g + 1, 0, none⟩), undef, v7, undef, undef, .slice A m c,
      .int .i64 0, .int .i64 0, .bool false, undef, .slice A m c, .int .i64 m, .slice (some ⟨g, 0, none⟩) 0 m, .slice A m c, .func (.func 73) #[] #[.pointer (some ⟨g + 1 + 1, 0, none⟩)], v20, v21,
      undef, undef, undef, undef, undef, undef, undef, undef, undef, undef, undef, undef, undef, undef, undef, undef, undef, undef, undef, undef, undef, undef, undef, undef, undef, undef, undef, undef, undef], defers := [] }
/-- the cells that have come -/
def turnC (pre : List (Nat × OkS)) : List Value := (pre.map (fun x => otherSt x.2.1)).flatMap shSt.cells
def turnI (w : World) (A : Option Addr) (m c g : Nat) (pre : List (Nat × OkS)) (W : World) : Prop :=
  ((∃ v, Boxed W (g + 1) 44 v ∧ W.ownsRow w.heap.size 54 4 v pre.length (turnC pre) ∧ True) ∧ Boxed W (g + 1 + 1) 44 (.slice A m c)) ∧ Below w.heap.size w W
def turnA (A : Option Addr) (m c g : Nat) (x : Nat × OkS) (a' : Act) (W : World) : Prop :=
  ∃ Bx v, g + 1 + 1 < Bx ∧ v.ownBlock ≠ some Bx ∧ Boxed W (g + 1) 44 v ∧ Blk W Bx 54 #[.int .u8 x.2.1.k, .bool x.2.1.p, .int .i64 x.2.1.a, .int .i64 x.2.1.b] ∧
    a' = turnF A m c g (.pointer (some ⟨Bx, 0, none⟩)) (.int .i64 (x.1 : Int)) (.agg #[.int .u8 x.2.1.k, .bool x.2.1.p, .int .i64 x.2.1.a, .int .i64 x.2.1.b])
theorem ok_side (s : St) : ((s.k = 6 ∨ s.k = 7) ∧ fb1 s.k = 6 ∧ fsd s.k = true) ∨ (¬ (s.k = 6 ∨ s.k = 7) ∧ fb1 s.k = 0) := by
  by_cases h1 : s.k = 6 ∨ s.k = 7
  · refine .inl ⟨h1, by rw [fb1, if_pos h1], ?_⟩
    rcases h1 with e | e <;> rw [e] <;> decide
  · exact .inr ⟨h1, by rw [fb1, if_neg h1]⟩
theorem turnC_snoc (pre : List (Nat × OkS)) (x : Nat × OkS) : turnC (pre ++ [x]) = turnC pre ++ shSt.cells (otherSt x.2.1) := by simp [turnC]
theorem own_lt {W : World} {B k : Nat} {e : TypeId} {n : Nat} {v : Value} {xs : List Value} (h : W.ownsRow B e n v k xs) : v.ownBlock ≠ some W.heap.size := by
  rcases h.2 with ⟨rfl, _⟩ | ⟨g, cap, cur, rfl, _, hgb, _⟩
  · simp [Value.ownBlock]
  · intro e'
    have h1 : g = W.heap.size := by simpa [Value.ownBlock] using e'
    have h2 := (Array.getElem?_eq_some_iff.1 hgb).1
    omega
set_option maxRecDepth 100000 in
set_option maxHeartbeats 8000000 in
theorem turn_walk (m c : Nat) (A : Option Addr) (l : List St) (w : World) (hv : Vec shSt w A m l) (hn : m ≤ maxLen) (hby : Bytes l) (h0 : allE l = 0) :
    Calls Tryz.prog 23 #[.slice A m c] w (FaceR (turnL l) 0 w) := by
  obtain ⟨hl1, hl2, hl3⟩ := allE_e h0
  obtain ⟨zs, rfl⟩ := ok_lift hl2
  have hmm : m ≤ 1000 := by have := hv.1; omega
  have hmk := run_make_sts m hmm
  have HV := Lib.hid hv
  have HE := Lib.hid h0
  have HL := Lib.hid (show zs.length = m by have := hv.1; simpa using this)
  obtain ⟨i0, hi, hz0, hz1, hz2⟩ := info_parts info_st
  have HI := Lib.hid hi
  have HZ0 := Lib.hid hz0
  have HZ1 := Lib.hid hz1
  have HZ2 := Lib.hid hz2
  clear hv h0 hi hz0 hz1 hz2 hl1 hl2 hl3
  refine (callsIn_wide (n := 3)).1 ?_
  refine callsIn_of_wp_marks Tryz.func23 rfl trivial ?_ rfl
  simp only [Tryz.ntmps23, List.size_toArray, List.length_cons, List.length_nil, Nat.reduceAdd, Nat.reduceSub, Array.replicate_succ, Array.replicate_zero, List.push_toArray, List.append_toArray, List.nil_append, List.cons_append]
  gi_wp2_with (first
    | (refine ⟨trivial, ?_⟩; gi_at_call 46; refine (callsIn_wide.2 (sall_any m c A _ _ (HV.out.ext (by repeat (first | exact Ext.refl _ | assumption | refine Ext.alloc ?_ _ | refine Ext.drew ?_ | refine Ext.drewN ?_ _ | refine Ext.trans ?_ (by assumption)))) hn hby)).mono ?_; rintro e w1 ⟨rfl, hq1⟩; obtain ⟨hf1, hf2, hf3⟩ := hq1.facts; rw [HE.out])
    | (refine ⟨trivial, ?_⟩; gi_at_call 50; refine (callsIn_wide.2 (back_any A m c _)).mono ?_; rintro e w' ⟨rfl, rfl⟩))
  obtain ⟨W0, hW0⟩ : ∃ W0, ((w1.alloc (.cells (stZeros m) 54)).alloc (.cells #[.slice (some ⟨w1.heap.size, 0, none⟩) 0 m] 44)).alloc (.cells #[.slice A m c] 44) = W0 := ⟨_, rfl⟩
  have hsz : W0.heap.size = w1.heap.size + 3 := by rw [← hW0]; simp
  have hq2 : Ext w w1 := by repeat (first | exact Ext.refl _ | assumption | refine Ext.alloc ?_ _ | refine Ext.drew ?_ | refine Ext.drewN ?_ _ | refine Ext.trans ?_ (by assumption))
  have hle : w.heap.size ≤ w1.heap.size := Below.size hq2
  have hB0 : Below w.heap.size w W0 := by rw [← hW0]; exact ((Ext.alloc (Ext.alloc (Ext.alloc hq2 _) _) _))
  have bO : Boxed W0 (w1.heap.size + 1) 44 (.slice (some ⟨w1.heap.size, 0, none⟩) 0 m) := by
    rw [← hW0]
    have := (Boxed.new (w1.alloc (.cells (stZeros m) 54)) 44 (.slice (some ⟨w1.heap.size, 0, none⟩) 0 m)).alloc (.cells #[.slice A m c] 44)
    simpa using this
  have bL : Boxed W0 (w1.heap.size + 1 + 1) 44 (.slice A m c) := by
    rw [← hW0]
    have := Boxed.new ((w1.alloc (.cells (stZeros m) 54)).alloc (.cells #[.slice (some ⟨w1.heap.size, 0, none⟩) 0 m] 44)) 44 (.slice A m c)
    simpa using this
  have rO : W0.ownsRow w.heap.size 54 4 (.slice (some ⟨w1.heap.size, 0, none⟩) 0 m) 0 [] := by
    rw [← hW0]
    exact ((made_own w1 w.heap.size m hle hmm).alloc _).alloc _
  clear hf1 hf2 hf3 hq1 hmk
  rw [hW0]
  clear hW0
  generalize hg : w1.heap.size = g at *
  clear hg
  have HB0 := Lib.hid hB0
  refine wpIn_rangeFunc_ownH (F := Fence.wide) (n := 3) rfl (by omega) (gf := 73) (lb := #[.pointer (some ⟨g + 1 + 1, 0, none⟩)]) rfl trivial enters_back
    (back_stops 2 (g + 1 + 1) w.heap.size A m c zs (by omega) hmm W0 ⟨_, _, bL⟩ (HV.out.ext hB0) (fun hm0 b off e => by
      obtain ⟨b', off', e', hlt, _⟩ := HV.out.2 hm0
      rw [e] at e'
      cases e'
      exact hlt))
    (fun h k => KpB.trans h k) (KpB.put (by omega)) (Below.refl _ _) (fun _ => rfl)
    (turnI w A m c g) (fun _ _ _ => False)
    (OwnFrom.and (OwnFrom.and (Own.from (holdsRow_own w.heap.size (g + 1) 44 54 4 (fun pre : List (Nat × OkS) => pre.length) (fun pre => turnC pre) (fun _ _ => True)) _) (Own.from (boxed_own (g + 1 + 1) 44 (fun _ => .slice A m c)) _)) (ownFrom_below (by omega) (by omega)))
    (fun _ _ _ _ _ hs _ _ => hs)
    ⟨⟨⟨_, bO, rO, trivial⟩, bL⟩, hB0⟩
    (turnA A m c g)
    (fun x a' => Own.from (fun s A B row hs hg hr => by obtain ⟨Bx, v, h1, h2, h3, h4, h5⟩ := hs; exact ⟨Bx, v, h1, h2, boxed_own _ _ (fun _ : Unit => v) () A B row h3 hg hr, Blk.own _ _ (fun _ : Unit => _) () A B row h4 hg hr, h5⟩) _) ?assign ?body ?done ?stop
  case assign =>
    rintro l pre x W K ⟨⟨⟨v, hv, hrow, -⟩, hbl⟩, hB⟩ hK
    have hlt := hbl.lt
    unfold encB
    gi_wp2
    exact hK _ _ ((KeepsOthers.alloc _ _).from _) (KpB.ext hB.size ((Ext.refl _).alloc _)) ⟨⟨⟨v, hv.alloc _, hrow.alloc _, trivial⟩, hbl.alloc _⟩, hB.alloc (by have := hB.size; omega) _⟩ ⟨W.heap.size, v, hlt, own_lt hrow, hv.alloc _, heap_alloc_new W _, rfl⟩
  case body =>
    rintro l pre x a' W _ _ ⟨⟨⟨v, hv, hrow, -⟩, hbl⟩, hB⟩ ⟨Bx, v9, hBx, hne, hv9, hblk, rfl⟩ hpl
    obtain rfl : v9 = v := by
      have := (show W.heap[g + 1]? = _ from hv9).symm.trans hv
      simpa using this
    obtain ⟨i, ⟨⟨sk, sp, sa, sb⟩, hok⟩⟩ := x
    simp only at hblk
    have hk1 := inR_e (ok_kind hok)
    have hsides := ok_side ⟨sk, sp, sa, sb⟩
    have HC := Lib.hid (show ∀ W', Calls Tryz.prog 51 #[.int .u8 sk] W' fun e w' => e = .returned (.tuple #[.agg #[.string ⟨(flt sk).toArray⟩, .int .i64 (fa0 sk), .int .i64 (fa1 sk), .int .i64 (fb0 sk), .int .i64 (fb1 sk), .bool (fsd sk), .int .i64 (fus sk), .int .i64 (fmd sk)], .bool true]) ∧ Ext W' w' from fun W' => by
      have h9 := forms_both sk (by simp only at hk1; omega) (by simp only at hk1; omega) W'
      rw [formR, show kindB sk = true from ok_kind hok] at h9
      exact h9)
    have HT := Lib.hid (show otherSt ⟨sk, sp, sa, sb⟩ = ⟨sk, fsd sk && !sp, if sk = 6 ∨ sk = 7 then sb else sa, if sk = 6 ∨ sk = 7 then sa else sb⟩ from rfl)
    have HBK := Lib.hid hblk
    have HVB := Lib.hid hv
    have HRW := Lib.hid hrow
    have HBL := Lib.hid hbl
    have HBB := Lib.hid hB
    have x0 : W.cell? ⟨Bx, 0, none⟩ = some (.int .u8 sk) := hblk.cell 0
    have x1 : W.cell? ⟨Bx, 1, none⟩ = some (.bool sp) := hblk.cell 1
    have x2 : W.cell? ⟨Bx, 2, none⟩ = some (.int .i64 sa) := hblk.cell 2
    have x3 : W.cell? ⟨Bx, 3, none⟩ = some (.int .i64 sb) := hblk.cell 3
    have y1 := hblk.frozen 1
    have y2 := hblk.frozen 2
    have y3 := hblk.frozen 3
    have hltB := hblk.lt
    have z0 := hv.cell
    have z1 := hv.frozen
    have hltv := hv.lt
    have hneB : some Bx ≠ v9.ownBlock := fun e => hne e.symm
    have hpl2 : pre.length < 1000 := by have := HL.out; omega
    unfold turnF
    clear hv9 hv hrow hbl hB hblk hk1
    generalize fus sk = f6 at *
    generalize fmd sk = f7 at *
    generalize fa0 sk = f1 at *
    generalize fa1 sk = f2 at *
    generalize fb0 sk = f3 at *
    generalize (flt sk) = f0 at *
    rcases hsides with ⟨h1, h2, h3⟩ | ⟨h1, h2⟩
    · have HTT := Lib.hid h1
      rw [if_pos h1, if_pos h1, h3] at HT
      simp only at h2 h3
      rw [h2, h3] at HC
      clear h1 h2 h3
      gi_wp2_with (first
        | (refine ⟨trivial, ?_⟩; gi_at_call 51; refine (CallsIn.inRound l (callsIn_wide.2 (HC.out _))).mono ?_; rintro e w5 ⟨rfl, hq5⟩; have HQ5 := Lib.hid (show Ext W w5 from hq5); obtain ⟨hf1, hf2, hf3⟩ := hq5.facts; clear hq5; have u1 := hf3 Bx hltB; have u2 := hf3 _ hltv; have u3 : ¬ (Bx = w5.heap.size) := (by omega); have u4 : ¬ (w5.heap.size = Bx) := (by omega); have u5 : ¬ (g + 1 = w5.heap.size) := (by omega); have u6 : ¬ (g + 1 = Bx) := (by omega); have u7 : ¬ (Bx = g + 1) := (by omega))
        | (gi_at_builtin; go_loud (obtain ⟨WE, hWE⟩ : ∃ WE, ((((w5.setCell ⟨Bx, 1, none⟩ (.bool (!sp))).setCell ⟨Bx, 2, none⟩ (.int .i64 sb)).setCell ⟨Bx, 3, none⟩ (.int .i64 sa)).alloc (.cells #[.string ⟨f0.toArray⟩, .int .i64 f1, .int .i64 f2, .int .i64 f3, .int .i64 6, .bool true, .int .i64 f6, .int .i64 f7] 100)) = WE := ⟨_, rfl⟩; have hgw : W.grownBy WE (some Bx) := (by rw [← hWE]; exact grown_trans (grown_trans (grown_trans (grown_trans (But.of_ext HQ5.out _) (grown_set _ _ _ _)) (grown_set _ _ _ _)) (grown_set _ _ _ _)) (World.grownBy_alloc _ _ _)); have hzz : WE.heap.size = w5.heap.size + 1 := (by rw [← hWE]; simp); rw [hWE]; clear hWE; have hrE := HRW.out.kept hgw (.inr (fun e => hneB e.symm)); have hvE := HVB.out.kept hgw (by simp; omega); have hbE := HBL.out.kept hgw (by simp; omega); have hzE := hgw.size; refine wpListIn_append_own _ rfl _ _ 44 rfl w.heap.size 54 i0 (.agg #[.int .u8 0, .bool false, .int .i64 0, .int .i64 0]) 4 24 Tryz.underlying44 HI.out HZ0.out HZ1.out HZ2.out rfl (by decide) _ _ _ rfl (hrE.alloc _) ⟨w5.heap.size + 1, 0, none⟩ 1 1 [.int .u8 sk, .bool (!sp), .int .i64 sb, .int .i64 sa] rfl rfl (fun j u hju => (by rw [← hzz]; exact cells4_new _ _ _ _ _ _ j u hju)) (by simp [Value.oneCell']) (by unfold maxLen; omega) (by omega) (by have := HBB.out.size; simp; omega) ?_; intro v' w7 hown' hgrow _; obtain ⟨g', cap', rfl⟩ := ownsRow_succ hown'; obtain ⟨hv1, hv2, hr2, hk2, hb2⟩ := hvE.appended (by decide) hrE (by have := HBB.out.size; omega) (by have := HBB.out.size; omega) hown' hgrow; have hc1 := hv1.cell; have hf1 := hv1.frozen; have hbE2 := (hbE.alloc (.cells #[.int .u8 sk, .bool (!sp), .int .i64 sb, .int .i64 sa] 54)).kept hgrow (hbE.not_row (by decide) hrE))))
      refine ⟨((KeepsOthers.of_grownBy hgw (fun j o ej hj => by cases ej; rw [show W.heap[Bx]? = _ from HBK.out] at hj; cases hj; rfl)).trans hk2).from _, ⟨((Below.refl w.heap.size W).grown hgw HBB.out.size (fun j ej => by cases ej; omega)).trans hb2, fun cs T f e9 => ?_⟩, ⟨⟨_, hv2, ?_, trivial⟩, hbE2.other (by omega) _⟩, (HBB.out.grown hgw HBB.out.size (fun j ej => by cases ej; omega)).trans hb2⟩
      · have e8 := (show W.heap[g + 1 + 1]? = _ from HBL.out).symm.trans e9
        cases e8
        exact hbE2.other (by omega) _
      · rw [turnC_snoc, HT.out]
        simpa [shSt, stc] using hr2
    · simp only at h2
      rw [if_neg h1, if_neg h1] at HT
      rw [h2] at HC
      clear h1 h2
      cases hs : fsd sk
      · rw [hs] at HC HT
        clear hs
        gi_wp2_with (first
          | (refine ⟨trivial, ?_⟩; gi_at_call 51; refine (CallsIn.inRound l (callsIn_wide.2 (HC.out _))).mono ?_; rintro e w5 ⟨rfl, hq5⟩; have HQ5 := Lib.hid (show Ext W w5 from hq5); obtain ⟨hf1, hf2, hf3⟩ := hq5.facts; clear hq5; have u1 := hf3 Bx hltB; have u2 := hf3 _ hltv; have u3 : ¬ (Bx = w5.heap.size) := (by omega); have u4 : ¬ (w5.heap.size = Bx) := (by omega); have u5 : ¬ (g + 1 = w5.heap.size) := (by omega); have u6 : ¬ (g + 1 = Bx) := (by omega); have u7 : ¬ (Bx = g + 1) := (by omega))
          | (gi_at_builtin; go_loud (obtain ⟨WE, hWE⟩ : ∃ WE, ((w5.setCell ⟨Bx, 1, none⟩ (.bool false)).alloc (.cells #[.string ⟨f0.toArray⟩, .int .i64 f1, .int .i64 f2, .int .i64 f3, .int .i64 0, .bool false, .int .i64 f6, .int .i64 f7] 100)) = WE := ⟨_, rfl⟩; have hgw : W.grownBy WE (some Bx) := (by rw [← hWE]; exact grown_trans (grown_trans (But.of_ext HQ5.out _) (grown_set _ _ _ _)) (World.grownBy_alloc _ _ _)); have hzz : WE.heap.size = w5.heap.size + 1 := (by rw [← hWE]; simp); rw [hWE]; clear hWE; have hrE := HRW.out.kept hgw (.inr (fun e => hneB e.symm)); have hvE := HVB.out.kept hgw (by simp; omega); have hbE := HBL.out.kept hgw (by simp; omega); have hzE := hgw.size; refine wpListIn_append_own _ rfl _ _ 44 rfl w.heap.size 54 i0 (.agg #[.int .u8 0, .bool false, .int .i64 0, .int .i64 0]) 4 24 Tryz.underlying44 HI.out HZ0.out HZ1.out HZ2.out rfl (by decide) _ _ _ rfl (hrE.alloc _) ⟨w5.heap.size + 1, 0, none⟩ 1 1 [.int .u8 sk, .bool false, .int .i64 sa, .int .i64 sb] rfl rfl (fun j u hju => (by rw [← hzz]; exact cells4_new _ _ _ _ _ _ j u hju)) (by simp [Value.oneCell']) (by unfold maxLen; omega) (by omega) (by have := HBB.out.size; simp; omega) ?_; intro v' w7 hown' hgrow _; obtain ⟨g', cap', rfl⟩ := ownsRow_succ hown'; obtain ⟨hv1, hv2, hr2, hk2, hb2⟩ := hvE.appended (by decide) hrE (by have := HBB.out.size; omega) (by have := HBB.out.size; omega) hown' hgrow; have hc1 := hv1.cell; have hf1 := hv1.frozen; have hbE2 := (hbE.alloc (.cells #[.int .u8 sk, .bool false, .int .i64 sa, .int .i64 sb] 54)).kept hgrow (hbE.not_row (by decide) hrE))))
        refine ⟨((KeepsOthers.of_grownBy hgw (fun j o ej hj => by cases ej; rw [show W.heap[Bx]? = _ from HBK.out] at hj; cases hj; rfl)).trans hk2).from _, ⟨((Below.refl w.heap.size W).grown hgw HBB.out.size (fun j ej => by cases ej; omega)).trans hb2, fun cs T f e9 => ?_⟩, ⟨⟨_, hv2, ?_, trivial⟩, hbE2.other (by omega) _⟩, (HBB.out.grown hgw HBB.out.size (fun j ej => by cases ej; omega)).trans hb2⟩
        · have e8 := (show W.heap[g + 1 + 1]? = _ from HBL.out).symm.trans e9
          cases e8
          exact hbE2.other (by omega) _
        · rw [turnC_snoc, HT.out]
          simpa [shSt, stc] using hr2
      · rw [hs] at HC HT
        clear hs
        gi_wp2_with (first
          | (refine ⟨trivial, ?_⟩; gi_at_call 51; refine (CallsIn.inRound l (callsIn_wide.2 (HC.out _))).mono ?_; rintro e w5 ⟨rfl, hq5⟩; have HQ5 := Lib.hid (show Ext W w5 from hq5); obtain ⟨hf1, hf2, hf3⟩ := hq5.facts; clear hq5; have u1 := hf3 Bx hltB; have u2 := hf3 _ hltv; have u3 : ¬ (Bx = w5.heap.size) := (by omega); have u4 : ¬ (w5.heap.size = Bx) := (by omega); have u5 : ¬ (g + 1 = w5.heap.size) := (by omega); have u6 : ¬ (g + 1 = Bx) := (by omega); have u7 : ¬ (Bx = g + 1) := (by omega))
          | (gi_at_builtin; go_loud (obtain ⟨WE, hWE⟩ : ∃ WE, ((w5.setCell ⟨Bx, 1, none⟩ (.bool (!sp))).alloc (.cells #[.string ⟨f0.toArray⟩, .int .i64 f1, .int .i64 f2, .int .i64 f3, .int .i64 0, .bool true, .int .i64 f6, .int .i64 f7] 100)) = WE := ⟨_, rfl⟩; have hgw : W.grownBy WE (some Bx) := (by rw [← hWE]; exact grown_trans (grown_trans (But.of_ext HQ5.out _) (grown_set _ _ _ _)) (World.grownBy_alloc _ _ _)); have hzz : WE.heap.size = w5.heap.size + 1 := (by rw [← hWE]; simp); rw [hWE]; clear hWE; have hrE := HRW.out.kept hgw (.inr (fun e => hneB e.symm)); have hvE := HVB.out.kept hgw (by simp; omega); have hbE := HBL.out.kept hgw (by simp; omega); have hzE := hgw.size; refine wpListIn_append_own _ rfl _ _ 44 rfl w.heap.size 54 i0 (.agg #[.int .u8 0, .bool false, .int .i64 0, .int .i64 0]) 4 24 Tryz.underlying44 HI.out HZ0.out HZ1.out HZ2.out rfl (by decide) _ _ _ rfl (hrE.alloc _) ⟨w5.heap.size + 1, 0, none⟩ 1 1 [.int .u8 sk, .bool (!sp), .int .i64 sa, .int .i64 sb] rfl rfl (fun j u hju => (by rw [← hzz]; exact cells4_new _ _ _ _ _ _ j u hju)) (by simp [Value.oneCell']) (by unfold maxLen; omega) (by omega) (by have := HBB.out.size; simp; omega) ?_; intro v' w7 hown' hgrow _; obtain ⟨g', cap', rfl⟩ := ownsRow_succ hown'; obtain ⟨hv1, hv2, hr2, hk2, hb2⟩ := hvE.appended (by decide) hrE (by have := HBB.out.size; omega) (by have := HBB.out.size; omega) hown' hgrow; have hc1 := hv1.cell; have hf1 := hv1.frozen; have hbE2 := (hbE.alloc (.cells #[.int .u8 sk, .bool (!sp), .int .i64 sa, .int .i64 sb] 54)).kept hgrow (hbE.not_row (by decide) hrE))))
        refine ⟨((KeepsOthers.of_grownBy hgw (fun j o ej hj => by cases ej; rw [show W.heap[Bx]? = _ from HBK.out] at hj; cases hj; rfl)).trans hk2).from _, ⟨((Below.refl w.heap.size W).grown hgw HBB.out.size (fun j ej => by cases ej; omega)).trans hb2, fun cs T f e9 => ?_⟩, ⟨⟨_, hv2, ?_, trivial⟩, hbE2.other (by omega) _⟩, (HBB.out.grown hgw HBB.out.size (fun j ej => by cases ej; omega)).trans hb2⟩
        · have e8 := (show W.heap[g + 1 + 1]? = _ from HBL.out).symm.trans e9
          cases e8
          exact hbE2.other (by omega) _
        · rw [turnC_snoc, HT.out]
          simpa [shSt, stc] using hr2

  case done =>
    rintro D ys W hD rfl ⟨⟨⟨v, hv, hrow, -⟩, hbl⟩, hB⟩ hK
    have hc := hv.cell
    have HT9 := Lib.hid (show turnC (upB zs zs.length) = (turnL (zs.map (·.1))).flatMap shSt.cells by rw [turnC, upB_all])
    obtain ⟨A9, c9, rfl, hv9, -⟩ := own_vecB (S := shSt) (L := turnL (zs.map (·.1))) (show OwnV shSt W w.heap.size 54 v m (turnL (zs.map (·.1))) by
      have h9 := hrow
      rw [upB_len, HT9.out, HL.out] at h9
      exact h9)
    gi_wp2
    refine ⟨by simp, .inl ⟨_, _, rfl, run_takeDeferred hK, ?_⟩⟩
    refine ⟨.tuple #[.slice A9 m c9, .int .i64 0], by simp [results, Tryz.f23, go_sem], ?_⟩
    have h8 : OwnV shSt (W.putObj D (.deferred none)) w.heap.size 54 (.slice A9 m c9) m (turnL (zs.map (·.1))) := by
      have h9 := ownsRow_putObj hrow (.deferred none) hK rfl
      rw [upB_len, HT9.out, HL.out] at h9
      exact h9
    exact ⟨A9, m, c9, rfl, hB.trans (belowK_b (w := w) (Nat.le_refl _) W D _ _ (by omega) hK rfl rfl), Vec.of_own h8⟩
  case stop =>
    rintro D c pre W _ _ h _
    exact h.elim
/-- Turn of a valid list -/
theorem turn_ok (m c : Nat) (A : Option Addr) (l : List St) (w : World) (hv : Vec shSt w A m l) (h0 : allE l = 0) : Calls Tryz.prog 23 #[.slice A m c] w (FaceR (turnL l) 0 w) :=
  turn_walk m c A l w hv (by have := hv.1; have := (allE_e h0).1; unfold maxLen; omega) (fun j hj => by have h1 := inR_e (ok_kind (allB_at (allE_e h0).2.1 hj)); omega) h0
end Go.Proofs.YtjjhoonkooihjaaGreatDoor
/- The reference's Other, Turned and Seen. -/
namespace Go.Proofs.YtjjhoonkooihjaaGreatDoor
set_option maxRecDepth 100000
open Go.RowKit Go.ChangeShapes Go.WideShapes Go.Joins
/-- a row as it is seen -/
def seenL (b : Bool) (l : List St) : List St := if b then turnL l else l
end Go.Proofs.YtjjhoonkooihjaaGreatDoor
/- The contract of the reference's Join of charts. -/
namespace Go.Proofs.YtjjhoonkooihjaaGreatDoor
set_option maxRecDepth 100000
open Go.RowKit Go.ChangeShapes Go.WideShapes Go.Joins
end Go.Proofs.YtjjhoonkooihjaaGreatDoor
/- The reference's Face, and slices.Clone of stitches. -/
namespace Go.Proofs.YtjjhoonkooihjaaGreatDoor
set_option maxRecDepth 100000
open Go.RowKit Go.ChangeShapes Go.WideShapes Go.Joins
/-- the error of Face -/
def faceE (s : Int) (l : List Ro) (i : Int) : Int := if chkC s l ≠ 0 then chkC s l else if i < 0 ∨ (l.length : Int) ≤ i then 2 else 0
/-- what Face returns -/
def faceL (s : Int) (l : List Ro) (i : Int) : List St := if faceE s l i = 0 then seenL (l.getD i.toNat ro0).back (l.getD i.toNat ro0).cells else []
theorem face_1 {s : Int} {l : List Ro} {i x : Int} (h : chkC s l = x) (h0 : x ≠ 0) : faceE s l i = x ∧ faceL s l i = [] := by
  have h1 : faceE s l i = x := by rw [faceE, if_pos (by rw [h]; exact h0), h]
  exact ⟨h1, by rw [faceL, if_neg (by rw [h1]; exact h0)]⟩
theorem face_2 {s : Int} {l : List Ro} {i : Int} (h : chkC s l = 0) (hi : i < 0 ∨ (l.length : Int) ≤ i) : faceE s l i = 2 ∧ faceL s l i = [] := by
  have h1 : faceE s l i = 2 := by rw [faceE, if_neg (by simpa using h), if_pos hi]
  exact ⟨h1, by rw [faceL, if_neg (by rw [h1]; decide)]⟩
theorem face_0 {s : Int} {l : List Ro} {k : Nat} (h : chkC s l = 0) (hk : k < l.length) : faceE s l (k : Int) = 0 ∧ faceL s l (k : Int) = seenL (l.getD k ro0).back (l.getD k ro0).cells := by
  have h1 : faceE s l (k : Int) = 0 := by rw [faceE, if_neg (by simpa using h), if_neg (by omega)]
  exact ⟨h1, by rw [faceL, if_pos h1]; rfl⟩
theorem row_ok {s : Int} {l : List Ro} {k : Nat} (h : chkC s l = 0) (hk : k < l.length) : (l.getD k ro0).cells.length ≤ 200 ∧ allB (l.getD k ro0).cells = true ∧ allE (l.getD k ro0).cells = 0 := by
  have h1 := (chkGo_ok (chkC_ok h).2.2.2 k hk).1
  have h2 := allE_e h1
  exact ⟨h2.1, h2.2.1, h1⟩
end Go.Proofs.YtjjhoonkooihjaaGreatDoor
/- slices.Clone of stitches. -/
namespace Go.Proofs.YtjjhoonkooihjaaGreatDoor
set_option maxRecDepth 100000
open Go.RowKit Go.ChangeShapes Go.WideShapes Go.Joins
set_option maxRecDepth 100000 in
set_option maxHeartbeats 4000000 in
theorem sclone_any (n c : Nat) (A : Option Addr) (l : List St) (w : World) (hl : Vec shSt w A n l) (hn : n ≤ 1000) :
    Calls Tryz.prog 48 #[.slice A n c] w (StsL l w) := by
  have HX := Lib.hid hl
  have hb0 := Lib.hid (Ext.refl w)
  rcases A with _ | ad
  · obtain rfl : n = 0 := by
      rcases Nat.eq_zero_or_pos n with h | h
      · exact h
      · obtain ⟨b, off, e, _⟩ := hl.2 h
        cases e
    clear hl
    have hnil : ∀ W, (binOp .eql 44 (.slice none 0 c) (.slice none 0 0)).run Tryz.prog W = .ok (.bool true) W := fun W => Lib.run_eql_slice_nil_nil W 0 c Tryz.underlying44
    go_enter Tryz.func48, Tryz.ntmps48
    go_wp2
    go_ret
    exact ⟨none, 0, 0, rfl, by repeat (first | exact Ext.refl _ | assumption | refine Ext.alloc ?_ _ | refine Ext.drew ?_ | refine Ext.drewN ?_ _ | refine Ext.trans ?_ (by assumption)), HX.out⟩
  · clear hl
    have hnil : ∀ W, (binOp .eql 44 (.slice (some ad) n c) (.slice none 0 0)).run Tryz.prog W = .ok (.bool false) W := fun W => Lib.run_eql_slice_some_nil W ad n c Tryz.underlying44
    go_enter Tryz.func48, Tryz.ntmps48
    go_wp2_with (at_builtin; go_loud (refine wpList_append_vecsB (S := shSt) (w := w) (xs := l) 44 54 (.agg #[.int .u8 0, .bool false, .int .i64 0, .int .i64 0]) 24 (by rfl) (by rfl) Tryz.underlying44 info_st (by rfl) (by omega) (by rfl) (by rfl) (OwnV.empty_ shSt (g := w.heap.size) (heap_alloc_new _ _) (Nat.le_refl _)) (by repeat (first | exact Ext.refl _ | assumption | refine Ext.alloc ?_ _ | refine Ext.drew ?_ | refine Ext.drewN ?_ _ | refine Ext.trans ?_ (by assumption))) (HX.out.ext (by repeat (first | exact Ext.refl _ | assumption | refine Ext.alloc ?_ _ | refine Ext.drew ?_ | refine Ext.drewN ?_ _ | refine Ext.trans ?_ (by assumption)))) (by omega) ?_; intro v' w3 hown3 hext3 hgr3))
    rw [Nat.zero_add, List.nil_append] at hown3
    obtain ⟨A3, c3, rfl, hv3, hb3⟩ := own_vecB hown3
    have HV3 := Lib.hid hv3
    clear hv3 hb3 hown3 hgr3
    go_wp2
    go_ret
    exact ⟨_, _, _, rfl, hext3.out, HV3.out⟩
end Go.Proofs.YtjjhoonkooihjaaGreatDoor
/- The contract of Face of charts. -/
namespace Go.Proofs.YtjjhoonkooihjaaGreatDoor
set_option maxRecDepth 100000
open Go.RowKit Go.ChangeShapes Go.WideShapes Go.Joins
set_option maxRecDepth 100000 in
set_option maxHeartbeats 4000000 in
theorem cface_any (s i : Int) (A : Option Addr) (m c : Nat) (la : List Ro) (w : World) (ha : Rws w (fun _ => True) A m la) :
    Calls Tryz.prog 20 #[.agg #[.int .i64 s, .slice A m c], .int .i64 i] w (FaceR (faceL s la i) (faceE s la i) w) := by
  have HLA := Lib.hid ha.len
  have HA := Lib.hid ha
  clear ha
  have hB0 := Lib.hid (show Ext w (w.alloc (.cells #[.int .i64 s, .slice A m c] 24)) from (Ext.refl _).alloc _)
  have hb : Ext (w.alloc (.cells #[.int .i64 s, .slice A m c] 24)) (w.alloc (.cells #[.int .i64 s, .slice A m c] 24)) := Ext.refl _
  obtain ⟨hc, hf, hz⟩ := hb.facts
  by_cases h1 : chkC s la = 0
  case neg =>
    obtain ⟨x, hx⟩ : ∃ x, chkC s la = x := ⟨_, rfl⟩
    rw [hx] at h1
    obtain ⟨e1, e2⟩ := face_1 (i := i) hx h1
    rw [e1, e2]
    have HC1 := Lib.hid hx
    have hne : (x != 0) = true := by simpa using h1
    clear h1 e1 e2 hx
    go_enter Tryz.func20, Tryz.ntmps20
    go_wp2_with (first | (go_at_call 25; ((with_reducible refine (ccheck_any s A m c la _ (HA.out.ext (hB0.out.trans (hb.trans (by repeat (first | exact Ext.refl _ | assumption | refine Ext.alloc ?_ _ | refine Ext.drew ?_ | refine Ext.drewN ?_ _ | refine Ext.trans ?_ (by assumption))))))).mono ?_); rintro e w1 ⟨rfl, hq1⟩; rw [HC1.out]; replace hb := Ext.via hb hq1 (by repeat (first | exact Ext.refl _ | assumption | refine Ext.alloc ?_ _ | refine Ext.drew ?_ | refine Ext.drewN ?_ _ | refine Ext.trans ?_ (by assumption))); clear hq1; obtain ⟨hc, hf, hz⟩ := hb.facts)))
    go_ret2
    exact ⟨none, 0, 0, rfl, hB0.out.trans hb, Vec.none_ _ _ _⟩
  by_cases hx : i < 0
  · obtain ⟨e1, e2⟩ := face_2 (i := i) h1 (.inl hx)
    rw [e1, e2]
    have HC1 := Lib.hid h1
    clear h1 e1 e2
    go_enter Tryz.func20, Tryz.ntmps20
    go_wp2_with (first | (go_at_call 25; ((with_reducible refine (ccheck_any s A m c la _ (HA.out.ext (hB0.out.trans (hb.trans (by repeat (first | exact Ext.refl _ | assumption | refine Ext.alloc ?_ _ | refine Ext.drew ?_ | refine Ext.drewN ?_ _ | refine Ext.trans ?_ (by assumption))))))).mono ?_); rintro e w1 ⟨rfl, hq1⟩; rw [HC1.out]; replace hb := Ext.via hb hq1 (by repeat (first | exact Ext.refl _ | assumption | refine Ext.alloc ?_ _ | refine Ext.drew ?_ | refine Ext.drewN ?_ _ | refine Ext.trans ?_ (by assumption))); clear hq1; obtain ⟨hc, hf, hz⟩ := hb.facts)))
    go_ret2
    exact ⟨none, 0, 0, rfl, hB0.out.trans hb, Vec.none_ _ _ _⟩
  by_cases hx : (m : Int) ≤ i
  · obtain ⟨e1, e2⟩ := face_2 (i := i) h1 (.inr (by rw [HLA.out]; exact hx))
    rw [e1, e2]
    have HC1 := Lib.hid h1
    clear h1 e1 e2
    go_enter Tryz.func20, Tryz.ntmps20
    go_wp2_with (first | (go_at_call 25; ((with_reducible refine (ccheck_any s A m c la _ (HA.out.ext (hB0.out.trans (hb.trans (by repeat (first | exact Ext.refl _ | assumption | refine Ext.alloc ?_ _ | refine Ext.drew ?_ | refine Ext.drewN ?_ _ | refine Ext.trans ?_ (by assumption))))))).mono ?_); rintro e w1 ⟨rfl, hq1⟩; rw [HC1.out]; replace hb := Ext.via hb hq1 (by repeat (first | exact Ext.refl _ | assumption | refine Ext.alloc ?_ _ | refine Ext.drew ?_ | refine Ext.drewN ?_ _ | refine Ext.trans ?_ (by assumption))); clear hq1; obtain ⟨hc, hf, hz⟩ := hb.facts)))
    go_ret2
    exact ⟨none, 0, 0, rfl, hB0.out.trans hb, Vec.none_ _ _ _⟩
  obtain ⟨k, rfl⟩ : ∃ k : Nat, i = (k : Int) := ⟨i.toNat, by omega⟩
  have hkm : k < m := by omega
  obtain ⟨e1, e2⟩ := face_0 (k := k) h1 (by rw [HLA.out]; exact hkm)
  rw [e1, e2]
  obtain ⟨r1, r2, r3⟩ := row_ok (k := k) h1 (by rw [HLA.out]; exact hkm)
  have HC1 := Lib.hid h1
  obtain ⟨b, off, A', n', c', rfl, hbw, -, d0, d1, hv, hm', -, -⟩ := HA.out.at_ hkm
  rw [hv.1] at r1
  have HV := Lib.hid hv
  have HO := Lib.hid r3
  have hlt9 : b < (w.alloc (.cells #[.int .i64 s, .slice (some ⟨b, off, none⟩) m c] 24)).heap.size := Nat.lt_of_lt_of_le hbw (Below.size hB0.out)
  have x0 := (Below.cell (p := ⟨b, off + k * 2, none⟩) hB0.out hbw).trans d0
  have x1 := (Below.cell (p := ⟨b, off + k * 2 + 1, none⟩) hB0.out hbw).trans d1
  generalize l0 : (la.getD k ro0).back = rb at *
  generalize l1 : (la.getD k ro0).cells = rc at *
  have q0 : (0 : Int) ≤ (k : Int) := by omega
  have q1 : (k : Int) < (m : Int) := by omega
  clear h1 e1 e2 d0 d1 hv r2 r3 l0 l1
  cases rb
  all_goals
    go_enter Tryz.func20, Tryz.ntmps20
    go_wp2_with (first
      | (go_at_call 25; ((with_reducible refine (ccheck_any s _ m c la _ (HA.out.ext (hB0.out.trans (hb.trans (by repeat (first | exact Ext.refl _ | assumption | refine Ext.alloc ?_ _ | refine Ext.drew ?_ | refine Ext.drewN ?_ _ | refine Ext.trans ?_ (by assumption))))))).mono ?_); rintro e w1 ⟨rfl, hq1⟩; rw [HC1.out]; replace hb := Ext.via hb hq1 (by repeat (first | exact Ext.refl _ | assumption | refine Ext.alloc ?_ _ | refine Ext.drew ?_ | refine Ext.drewN ?_ _ | refine Ext.trans ?_ (by assumption))); clear hq1; obtain ⟨hc, hf, hz⟩ := hb.facts; have y0 := (hc b (off + k * 2) hlt9).trans x0; have y1 := (hc b (off + k * 2 + 1) hlt9).trans x1))
      | (go_at_call 23; ((with_reducible refine (turn_ok n' c' A' rc _ (HV.out.ext (hB0.out.trans (hb.trans (by repeat (first | exact Ext.refl _ | assumption | refine Ext.alloc ?_ _ | refine Ext.drew ?_ | refine Ext.drewN ?_ _ | refine Ext.trans ?_ (by assumption)))))) HO.out).mono ?_); rintro e w2 ⟨A2, n2, c2, rfl, hq2, hv2⟩; have HV2 := Lib.hid hv2; clear hv2; replace hb := Ext.via hb hq2 (by repeat (first | exact Ext.refl _ | assumption | refine Ext.alloc ?_ _ | refine Ext.drew ?_ | refine Ext.drewN ?_ _ | refine Ext.trans ?_ (by assumption))); clear hq2))
      | (go_at_call 48; ((with_reducible refine (sclone_any n' c' A' rc _ (HV.out.ext (hB0.out.trans (hb.trans (by repeat (first | exact Ext.refl _ | assumption | refine Ext.alloc ?_ _ | refine Ext.drew ?_ | refine Ext.drewN ?_ _ | refine Ext.trans ?_ (by assumption)))))) (by omega)).mono ?_); rintro e w2 ⟨A2, n2, c2, rfl, hq2, hv2⟩; have HV2 := Lib.hid hv2; clear hv2; replace hb := Ext.via hb hq2 (by repeat (first | exact Ext.refl _ | assumption | refine Ext.alloc ?_ _ | refine Ext.drew ?_ | refine Ext.drewN ?_ _ | refine Ext.trans ?_ (by assumption))); clear hq2)))
    go_ret2
    exact ⟨A2, n2, c2, rfl, hB0.out.trans hb, HV2.out⟩
end Go.Proofs.YtjjhoonkooihjaaGreatDoor
