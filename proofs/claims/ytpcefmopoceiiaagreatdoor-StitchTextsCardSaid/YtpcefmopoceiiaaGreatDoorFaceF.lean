/- slices.Backward over stitches, and the contract of Turn. -/
import Derived.Test.YtpcefmopoceiiaaGreatDoorTurnR
namespace Go.Proofs.YtpcefmopoceiiaaGreatDoor
set_option maxRecDepth 100000
open Go.RowKit Go.ChangeShapes Go.WideShapes Go.Joins Go.Shelf
attribute [local go_sem] Oper.semAt_some
/-- a valid stitch -/
abbrev OkS := { s : St // okSt s = true }
def ok0 : OkS := ⟨⟨1, false, 0, 0⟩, rfl⟩
theorem ok_lift : ∀ {l : List St}, allB l = true → ∃ zs : List OkS, zs.map (·.1) = l := by
  intro l
  induction l with
  | nil => intro _; exact ⟨[], rfl⟩
  | cons s l ih =>
    intro h
    have h1 : okSt s = true ∧ allB l = true := by simpa [allB] using h
    obtain ⟨zs, hz⟩ := ih h1.2
    exact ⟨⟨s, h1.1⟩ :: zs, by simp [hz]⟩
/-- what a round is handed -/
def encB (x : Nat × OkS) : Array Value := #[.int .i64 (x.1 : Int), .agg #[.int .u8 x.2.1.k, .bool x.2.1.p, .int .i64 x.2.1.a, .int .i64 x.2.1.b]]
/-- what has come when k rounds are over -/
def upB (l : List OkS) (k : Nat) : List (Nat × OkS) := (List.range k).map (fun j => (l.length - 1 - j, l.getD (l.length - 1 - j) ok0))
theorem upB_succ (l : List OkS) (k : Nat) : upB l (k + 1) = upB l k ++ [(l.length - 1 - k, l.getD (l.length - 1 - k) ok0)] := by simp [upB, List.range_succ]
theorem upB_len (l : List OkS) (k : Nat) : (upB l k).length = k := by simp [upB]
theorem upB_all (l : List OkS) : (upB l l.length).map (fun x => otherSt x.2.1) = turnL (l.map (·.1)) := by
  unfold turnL upB
  apply List.ext_getElem
  · simp
  · intro i h1 h2
    have hi : i < l.length := by simpa using h2
    simp only [List.map_map, List.getElem_map, List.getElem_range, Function.comp_apply, List.getElem_reverse]
    rw [List.getD_eq_getElem?_getD, List.getElem?_eq_getElem (by omega)]
    simp
/-- what a round keeps: all that lay when the call began, and the block of the list -/
def KpB (n₀ Bs : Nat) (A B : World) : Prop := Below n₀ A B ∧ ∀ cs T f, A.heap[Bs]? = some (Obj.cells cs T f) → B.heap[Bs]? = some (Obj.cells cs T f)
theorem KpB.trans {n₀ Bs : Nat} {A B C : World} (h : KpB n₀ Bs A B) (k : KpB n₀ Bs B C) : KpB n₀ Bs A C := ⟨h.1.trans k.1, fun cs T f e => k.2 cs T f (h.2 cs T f e)⟩
theorem KpB.put {n₀ Bs : Nat} {w : World} (hn : n₀ ≤ w.heap.size) (W : World) (l : Nat) (o o' : Obj) (hl : w.heap.size ≤ l) (h : W.heap[l]? = some o) (hc : o.isCells = false) (hw : o.isWalk = false) : KpB n₀ Bs W (W.putObj l o') := by
  refine ⟨belowK_b hn W l o o' hl h hc hw, fun _ _ _ e => (World.putObj_heap_other (fun e2 => ?_)).trans e⟩
  subst e2
  rw [h] at e
  cases e
  cases hc
theorem KpB.ext {n₀ Bs : Nat} {A B : World} (hn : n₀ ≤ A.heap.size) (h : Ext A B) : KpB n₀ Bs A B := ⟨Below.mono h hn, fun _ _ _ e => (h.block Bs (Array.getElem?_eq_some_iff.1 e).1).trans e⟩
set_option maxRecDepth 100000 in
set_option maxHeartbeats 4000000 in
theorem back1_in (n l Bs n₀ : Nat) (A : Option Addr) (m c : Nat) (zs : List OkS) (hn : 1 ≤ n) (hm : m ≤ 1000) (J Jx : List (Nat × OkS) → World → Prop) (W : World)
    (hY : ∀ pre x W, J pre W → pre.length < zs.length → YieldAt Fence.wide (n - 1) Tryz.prog l (encB x) W fun e W' =>
      (e = .returned (.bool true) ∧ J (pre ++ [x]) W' ∧ KpB n₀ Bs W W') ∨ (e = .returned (.bool false) ∧ Jx (pre ++ [x]) W'))
    (hBs : ∃ T f, W.heap[Bs]? = some (Obj.cells #[.slice A m c] T f)) (hv : Vec shSt W A m (zs.map (·.1))) (hA : 0 < m → ∀ b off, A = some ⟨b, off, none⟩ → b < n₀) (h0 : J [] W) :
    CallsIn Fence.wide n Tryz.prog 28 #[.func (.yield l) #[] #[], .pointer (some ⟨Bs, 0, none⟩)] W fun e W' => (∃ v, e = .returned v) ∧
      ((∃ ys, ys = upB zs zs.length ∧ J ys W') ∨ (∃ pre, (∃ k, k ≤ zs.length ∧ pre = upB zs k) ∧ Jx pre W')) := by
  have HV := Lib.hid hv
  have HL := Lib.hid (show zs.length = m by have := hv.1; simpa using this)
  have HY := Lib.hid hY
  have HAT := Lib.hid hA
  have HB := Lib.hid hBs
  have hm2 : (m : Int) ≤ 1000 := by omega
  clear hv hY hA hBs
  have hx0 : W.cell? ⟨Bs, 0, none⟩ = some (.slice A m c) := by
    obtain ⟨T, f, h⟩ := HB.out
    rw [cell_of_row _ Bs _ _ T f h]
    rfl
  refine callsIn_of_wp Tryz.func28 rfl trivial ?_ rfl
  simp only [Tryz.ntmps28, List.size_toArray, List.length_cons, List.length_nil, Nat.reduceAdd, Nat.reduceSub, Array.replicate_succ, Array.replicate_zero, List.push_toArray, List.append_toArray, List.nil_append, List.cons_append]
  gi_wp2
  clear hx0
  gi_loopw [3] (fun i wr => ∃ (k : Nat) (z : Int), i = .int .i64 z ∧ z + 1 = k ∧ k ≤ m ∧ Hid (J (upB zs (m - k)) wr ∧ KpB n₀ Bs W wr)) (fun i _ => (intOf i + 1).toNat)
  case atStart => exact ⟨m, (m : Int) - 1, by go_num, by omega, Nat.le_refl _, Lib.hid ⟨by rw [Nat.sub_self]; exact h0, Below.refl _ _, fun _ _ _ e => e⟩⟩
  case round =>
    obtain ⟨k, z, rfl, hz, hk, HJ⟩ := hrel
    have hx1 : wr.cell? ⟨Bs, 0, none⟩ = some (.slice A m c) := by
      obtain ⟨T, f, h⟩ := HB.out
      have h9 := HJ.out.2.2 _ _ _ h
      rw [cell_of_row _ Bs _ _ T f h9]
      rfl
    rcases k with _ | k
    · obtain rfl : z = -1 := by omega
      gi_wp2
      go_end0
      exact ⟨⟨_, rfl⟩, .inl ⟨_, rfl, by have := HJ.out.1; rw [HL.out]; exact this⟩⟩
    · obtain rfl : z = (k : Int) := by omega
      have hlt : k < zs.length := by rw [HL.out]; omega
      obtain ⟨b, off, rfl, hb1, hc⟩ := Sts.all HV.out (by omega)
      obtain ⟨c1, c2, c3, c4⟩ := hc k (by omega)
      have hbn := HAT.out (by omega) b off rfl
      replace c1 := (HJ.out.2.1.cell (p := ⟨b, _, none⟩) hbn).trans c1
      replace c2 := (HJ.out.2.1.cell (p := ⟨b, _, none⟩) hbn).trans c2
      replace c3 := (HJ.out.2.1.cell (p := ⟨b, _, none⟩) hbn).trans c3
      replace c4 := (HJ.out.2.1.cell (p := ⟨b, _, none⟩) hbn).trans c4
      clear hc hz
      have HE := Lib.hid (show upB zs (m - k) = upB zs (m - (k + 1)) ++ [(k, zs.getD k ok0)] by
        rw [show m - k = m - (k + 1) + 1 by omega, upB_succ, HL.out, show m - 1 - (m - (k + 1)) = k by omega])
      have hgd : (zs.map (·.1)).getD k st0 = (zs.getD k ok0).1 := by
        rw [List.getD_eq_getElem?_getD, List.getD_eq_getElem?_getD, List.getElem?_map, List.getElem?_eq_getElem hlt]; rfl
      rw [hgd] at c1 c2 c3 c4
      clear hgd
      generalize zs.getD k ok0 = s at *
      obtain ⟨⟨sk, sp, sa, sb⟩, hok⟩ := s
      simp only at c1 c2 c3 c4
      have q0 : (0 : Int) ≤ (k : Int) := by omega
      have q1 : (k : Int) < (m : Int) := by omega
      obtain ⟨fn, tmps, assign, body, hy, hR⟩ := HY.out (upB zs (m - (k + 1))) (k, ⟨⟨sk, sp, sa, sb⟩, hok⟩) wr HJ.out.1 (by rw [upB_len, HL.out]; omega)
      have HRR := Lib.hid hR
      clear hR
      dsimp only [encB] at hy
      gi_wp2
      refine HRR.out.mono ?_
      rintro e W3 (⟨rfl, hJ3, hk3⟩ | ⟨rfl, hJx3⟩)
      · have HJ3 := Lib.hid hJ3
        have HK3 := Lib.hid hk3
        clear hJ3 hk3 hy
        gi_wp2
        go_roundw
        case rel => exact ⟨k, (k : Int) - 1, by go_num, by omega, by omega, Lib.hid ⟨by rw [HE.out]; exact HJ3.out, HJ.out.2.trans HK3.out⟩⟩
        case measure => simp [intOf]
      · have HJ3 := Lib.hid hJx3
        clear hJx3
        gi_wp2
        refine bodyPost_ret (results_none rfl _ _ _) rfl ?_
        exact ⟨⟨_, rfl⟩, .inr ⟨_, ⟨m - k, by rw [HL.out]; omega, rfl⟩, by rw [HE.out]; exact HJ3.out⟩⟩
theorem enters_back : ∀ args w, (callFunc 28 args).run Tryz.prog w = .ok (.enter 28 args) w := enters_of Tryz.func28 (by kernel_rfl) rfl
set_option maxHeartbeats 1000000 in
theorem back_any (A : Option Addr) (m c : Nat) (w : World) :
    Calls Tryz.prog 13 #[.slice A m c] w fun e w' => e = .returned (.func (.func 28) #[] #[.pointer (some ⟨w.heap.size, 0, none⟩)]) ∧ w' = w.alloc (.cells #[.slice A m c] 22) := by
  go_enter Tryz.func13, Tryz.ntmps13
  go_wp2
  go_ret
  exact ⟨rfl, rfl⟩
theorem back_stops (n Bs n₀ : Nat) (A : Option Addr) (m c : Nat) (zs : List OkS) (hn : 1 ≤ n) (hm : m ≤ 1000) (w : World)
    (hBs : ∃ T f, w.heap[Bs]? = some (Obj.cells #[.slice A m c] T f)) (hv : Vec shSt w A m (zs.map (·.1))) (hA : 0 < m → ∀ b off, A = some ⟨b, off, none⟩ → b < n₀) :
    SeqStopsK Fence.wide n Tryz.prog 28 #[.pointer (some ⟨Bs, 0, none⟩)] encB (KpB n₀ Bs) (fun ys => ys = upB zs zs.length) (fun pre => ∃ k, k ≤ zs.length ∧ pre = upB zs k) zs.length w := fun l J Jx W hW hJ _ hY h0 =>
  back1_in n l Bs n₀ A m c zs hn hm J Jx W hY (by obtain ⟨T, f, h⟩ := hBs; exact ⟨T, f, (hW.block Bs (Array.getElem?_eq_some_iff.1 h).1).trans h⟩) (hv.ext hW) hA h0
end Go.Proofs.YtpcefmopoceiiaaGreatDoor
