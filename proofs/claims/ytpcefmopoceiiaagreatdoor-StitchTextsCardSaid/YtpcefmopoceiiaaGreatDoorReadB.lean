/- The other ways through read; and what read returns of whatever word. -/
import Derived.Test.YtpcefmopoceiiaaGreatDoorRead
namespace Go.Proofs.YtpcefmopoceiiaaGreatDoor
set_option maxRecDepth 100000
open Go.RowKit
theorem run_min_r {P : Program} {w : World} (ts : Array TypeId) (t : TypeId) (x y : Int) : (Builtin.min_ ts t #[.int .i64 x, .int .i64 y]).run P w = .ok (.int .i64 (min x y)) w := by
  rw [run_min_int2]
  congr 2
  split <;> omega
set_option maxHeartbeats 2000000 in
theorem read_yo (l : List UInt8) (hE : (l == [121, 111]) = true) (w : World) :
    Calls Tryz.prog 20 #[.string ⟨l.toArray⟩] w fun e w' => e = .returned (.tuple #[.agg #[.int .u8 2, .bool false, .int .i64 0, .int .i64 0], .int .i64 1]) ∧ Ext w w' := by
  go_enter Tryz.func20, Tryz.ntmps20
  go_wp2
  exact bodyPost_ret (v := .tuple #[.agg #[.int .u8 2, .bool false, .int .i64 0, .int .i64 0], .int .i64 1]) (by simp [results, Tryz.f20, go_sem]) rfl ⟨rfl, by repeat (first | exact Ext.refl _ | assumption | refine Ext.alloc ?_ _ | refine Ext.drew ?_ | refine Ext.set ?_ (by simp) _ | refine Ext.trans ?_ (by assumption))⟩
set_option maxHeartbeats 2000000 in
theorem read_on (l T : List UInt8) (hl : l.length ≤ 100000) (hE : (l == [121, 111]) = false) (hP : [111, 110].isPrefixOf l = true) (h2 : 2 ≤ l.length) (hT : T.length ≤ l.length) (hx : (⟨l.toArray⟩ : ByteArray).extract 2 l.length = ⟨T.toArray⟩) (w : World) (hg : Glob w) :
    Calls Tryz.prog 20 #[.string ⟨l.toArray⟩] w fun e w' => e = .returned (.tuple #[.agg #[.int .u8 9, .bool false, .int .i64 (numR T).1, .int .i64 0], .int .i64 1]) ∧ Ext w w' := by
  have HG := Lib.hid hg
  have HP := Lib.hid hP
  have q0 : (2 : Int) ≤ (l.length : Int) := by omega
  clear hg hP
  go_enter Tryz.func20, Tryz.ntmps20
  go_upto_region 5 with (first
    | (go_at_call 38; go_loud (((with_reducible refine (prefix_any l [111, 110] _).mono ?_); rintro e w1 ⟨rfl, rfl⟩; rw [HP.out])))
    | (go_at_call 39; go_loud (((with_reducible refine (number_any T (by omega) _ (HG.out.ext (by repeat (first | exact Ext.refl _ | assumption | refine Ext.alloc ?_ _ | refine Ext.drew ?_ | refine Ext.set ?_ (by simp) _ | refine Ext.trans ?_ (by assumption))))).mono ?_); rintro e w2 ⟨rfl, hq2⟩; have HB2 := Lib.hid ((Bx.new w _ _ _ _ _).ext hq2); have HX2 := Lib.hid (Ext.trans ((Ext.refl w).alloc _) hq2); obtain ⟨⟨b0, b1, b2, b3⟩, f0, f1, f2, f3⟩ := HB2.out))))
  go_wp2
  obtain ⟨WF, hWF⟩ : ∃ WF, (((w2.setCell ⟨w.heap.size, 0, none⟩ (.int .u8 9)).setCell ⟨w.heap.size, 1, none⟩ (.bool false)).setCell ⟨w.heap.size, 2, none⟩ (.int .i64 (numR T).1)).setCell ⟨w.heap.size, 3, none⟩ (.int .i64 0) = WF := ⟨_, rfl⟩
  have HX := Lib.hid (show Ext w WF by rw [← hWF]; exact (((HX2.out.set (by simp) _).set (by simp) _).set (by simp) _).set (by simp) _)
  obtain ⟨y0, y1, y2, y3⟩ := res4 HB2.out.has hWF
  rw [hWF]
  exact bodyPost_ret (v := .tuple #[.agg #[.int .u8 9, .bool false, .int .i64 (numR T).1, .int .i64 0], .int .i64 1]) (by simp [results, Tryz.f20, go_sem, y0, y1, y2, y3]) rfl ⟨rfl, HX.out⟩
set_option maxHeartbeats 2000000 in
theorem read_no (l : List UInt8) (hE : (l == [121, 111]) = false) (hP : [111, 110].isPrefixOf l = false) (he : l.isEmpty = true) (w : World) :
    Calls Tryz.prog 20 #[.string ⟨l.toArray⟩] w fun e w' => e = .returned (.tuple #[.agg #[.int .u8 0, .bool false, .int .i64 0, .int .i64 0], .int .i64 1]) ∧ Ext w w' := by
  have HP := Lib.hid hP
  clear hP
  go_enter Tryz.func20, Tryz.ntmps20
  go_wp2_with (go_at_call 38; go_loud (((with_reducible refine (prefix_any l [111, 110] _).mono ?_); rintro e w1 ⟨rfl, rfl⟩; rw [HP.out])))
  exact bodyPost_ret (v := .tuple #[.agg #[.int .u8 0, .bool false, .int .i64 0, .int .i64 0], .int .i64 1]) (by simp [results, Tryz.f20, go_sem]) rfl ⟨rfl, by repeat (first | exact Ext.refl _ | assumption | refine Ext.alloc ?_ _ | refine Ext.drew ?_ | refine Ext.set ?_ (by simp) _ | refine Ext.trans ?_ (by assumption))⟩
set_option maxHeartbeats 2000000 in
theorem read_bad (l : List UInt8) (c : UInt8) (hE : (l == [121, 111]) = false) (hP : [111, 110].isPrefixOf l = false) (he : l.isEmpty = false) (hl : 0 < l.length) (h0 : ∀ h, (⟨l.toArray⟩ : ByteArray)[0]'h = c) (h1 : ((c.toNat : Int) != 107) = true) (h2 : ((c.toNat : Int) != 112) = true) (w : World) :
    Calls Tryz.prog 20 #[.string ⟨l.toArray⟩] w fun e w' => e = .returned (.tuple #[.agg #[.int .u8 0, .bool false, .int .i64 0, .int .i64 0], .int .i64 1]) ∧ Ext w w' := by
  have HP := Lib.hid hP
  have q0 : (0 : Int) < (l.length : Int) := by omega
  clear hP
  go_enter Tryz.func20, Tryz.ntmps20
  go_wp2_with (go_at_call 38; go_loud (((with_reducible refine (prefix_any l [111, 110] _).mono ?_); rintro e w1 ⟨rfl, rfl⟩; rw [HP.out])))
  exact bodyPost_ret (v := .tuple #[.agg #[.int .u8 0, .bool false, .int .i64 0, .int .i64 0], .int .i64 1]) (by simp [results, Tryz.f20, go_sem]) rfl ⟨rfl, by repeat (first | exact Ext.refl _ | assumption | refine Ext.alloc ?_ _ | refine Ext.drew ?_ | refine Ext.set ?_ (by simp) _ | refine Ext.trans ?_ (by assumption))⟩
set_option maxHeartbeats 4000000 in
theorem readn_107E (l R : List UInt8) (N : Int) (hl : l.length ≤ 100000) (hR : R.length + 1 = l.length) (hE : (l == [121, 111]) = false) (hP : [111, 110].isPrefixOf l = false)
    (h0 : ∀ h, (⟨l.toArray⟩ : ByteArray)[0]'h = 107) (hx : (⟨l.toArray⟩ : ByteArray).extract 1 l.length = ⟨R.toArray⟩) (hn : (numR R).1 = N) (he : R.isEmpty = true) (w : World) (hg : Glob w) :
    Calls Tryz.prog 20 #[.string ⟨l.toArray⟩] w fun e w' => e = .returned (.tuple #[.agg #[.int .u8 1, .bool false, .int .i64 0, .int .i64 0], .int .i64 (min (max N 1) 201)]) ∧ Ext w w' := by
  have HG := Lib.hid hg
  have HN := Lib.hid hn
  have HP := Lib.hid hP
  have q0 : (0 : Int) < (l.length : Int) := by omega
  have q2 : (1 : Int) ≤ (l.length : Int) := by omega
  have l0 : l.isEmpty = false := by cases l with
    | nil => simp at hR
    | cons _ _ => rfl
  have m1 : ∀ (ts : Array TypeId) (t : TypeId) (W : World), (Builtin.max_ ts t #[.int .i64 N, .int .i64 1]).run Tryz.prog W = .ok (.int .i64 (max N 1)) W := fun ts t W => run_max_r ts t N 1
  have m2 : ∀ (ts : Array TypeId) (t : TypeId) (W : World), (Builtin.min_ ts t #[.int .i64 (max N 1), .int .i64 201]).run Tryz.prog W = .ok (.int .i64 (min (max N 1) 201)) W := fun ts t W => run_min_r ts t _ _
  clear hg hn hP
  go_enter Tryz.func20, Tryz.ntmps20
  go_upto_region 13 with (first
    | (go_at_call 38; go_loud (((with_reducible refine (prefix_any l [111, 110] _).mono ?_); rintro e w1 ⟨rfl, rfl⟩; rw [HP.out])))
    | (go_at_call 39; go_loud (((with_reducible refine (number_any R (by omega) _ (HG.out.ext (by repeat (first | exact Ext.refl _ | assumption | refine Ext.alloc ?_ _ | refine Ext.drew ?_ | refine Ext.set ?_ (by simp) _ | refine Ext.trans ?_ (by assumption))))).mono ?_); rintro e w2 ⟨rfl, hq2⟩; rw [HN.out]; have HB2 := Lib.hid ((Bx.new w _ _ _ _ _).ext hq2); have HX2 := Lib.hid (Ext.trans ((Ext.refl w).alloc _) hq2); obtain ⟨⟨b0, b1, b2, b3⟩, f0, f1, f2, f3⟩ := HB2.out))))
  have hB9 : Bx (w2.setCell ⟨w.heap.size, 0, none⟩ (.int .u8 1)) w.heap.size (.int .u8 1) (.bool false) (.int .i64 0) (.int .i64 0) := HB2.out.set0 _
  have hX9 : Ext w (w2.setCell ⟨w.heap.size, 0, none⟩ (.int .u8 1)) := HX2.out.set (by simp) _
  obtain ⟨W9, hW9⟩ : ∃ W9, w2.setCell ⟨w.heap.size, 0, none⟩ (.int .u8 1) = W9 := ⟨_, rfl⟩
  rw [hW9] at hB9 hX9 ⊢
  clear hW9 b0 b1 b2 b3 f0 f1 f2 f3
  have HX9 := Lib.hid hX9
  have HB9 := Lib.hid hB9
  obtain ⟨⟨b0, b1, b2, b3⟩, f0, f1, f2, f3⟩ := hB9
  clear hX9
  go_wp2
  obtain ⟨WF, hWF⟩ : ∃ WF, (((W9.setCell ⟨w.heap.size, 0, none⟩ (.int .u8 1)).setCell ⟨w.heap.size, 1, none⟩ (.bool false)).setCell ⟨w.heap.size, 2, none⟩ (.int .i64 0)).setCell ⟨w.heap.size, 3, none⟩ (.int .i64 0) = WF := ⟨_, rfl⟩
  have HX := Lib.hid (show Ext w WF by rw [← hWF]; exact (((HX9.out.set (by simp) _).set (by simp) _).set (by simp) _).set (by simp) _)
  obtain ⟨y0, y1, y2, y3⟩ := res4 HB9.out.has hWF
  rw [hWF]
  exact bodyPost_ret (v := .tuple #[.agg #[.int .u8 1, .bool false, .int .i64 0, .int .i64 0], .int .i64 (min (max N 1) 201)]) (by simp [results, Tryz.f20, go_sem, y0, y1, y2, y3]) rfl ⟨rfl, HX.out⟩
set_option maxHeartbeats 4000000 in
theorem readn_107P (l R : List UInt8) (N : Int) (hl : l.length ≤ 100000) (hR : R.length + 1 = l.length) (hE : (l == [121, 111]) = false) (hP : [111, 110].isPrefixOf l = false)
    (h0 : ∀ h, (⟨l.toArray⟩ : ByteArray)[0]'h = 107) (hx : (⟨l.toArray⟩ : ByteArray).extract 1 l.length = ⟨R.toArray⟩) (hn : (numR R).1 = N) (he : R.isEmpty = false) (h5 : 0 ≤ N) (w : World) (hg : Glob w) :
    Calls Tryz.prog 20 #[.string ⟨l.toArray⟩] w fun e w' => e = .returned (.tuple #[.agg #[.int .u8 1, .bool false, .int .i64 0, .int .i64 0], .int .i64 (min (max N 1) 201)]) ∧ Ext w w' := by
  have HG := Lib.hid hg
  have HN := Lib.hid hn
  have HP := Lib.hid hP
  have q0 : (0 : Int) < (l.length : Int) := by omega
  have q2 : (1 : Int) ≤ (l.length : Int) := by omega
  have l0 : l.isEmpty = false := by cases l with
    | nil => simp at hR
    | cons _ _ => rfl
  have m1 : ∀ (ts : Array TypeId) (t : TypeId) (W : World), (Builtin.max_ ts t #[.int .i64 N, .int .i64 1]).run Tryz.prog W = .ok (.int .i64 (max N 1)) W := fun ts t W => run_max_r ts t N 1
  have m2 : ∀ (ts : Array TypeId) (t : TypeId) (W : World), (Builtin.min_ ts t #[.int .i64 (max N 1), .int .i64 201]).run Tryz.prog W = .ok (.int .i64 (min (max N 1) 201)) W := fun ts t W => run_min_r ts t _ _
  clear hg hn hP
  go_enter Tryz.func20, Tryz.ntmps20
  go_upto_region 13 with (first
    | (go_at_call 38; go_loud (((with_reducible refine (prefix_any l [111, 110] _).mono ?_); rintro e w1 ⟨rfl, rfl⟩; rw [HP.out])))
    | (go_at_call 39; go_loud (((with_reducible refine (number_any R (by omega) _ (HG.out.ext (by repeat (first | exact Ext.refl _ | assumption | refine Ext.alloc ?_ _ | refine Ext.drew ?_ | refine Ext.set ?_ (by simp) _ | refine Ext.trans ?_ (by assumption))))).mono ?_); rintro e w2 ⟨rfl, hq2⟩; rw [HN.out]; have HB2 := Lib.hid ((Bx.new w _ _ _ _ _).ext hq2); have HX2 := Lib.hid (Ext.trans ((Ext.refl w).alloc _) hq2); obtain ⟨⟨b0, b1, b2, b3⟩, f0, f1, f2, f3⟩ := HB2.out))))
  have hB9 : Bx (w2.setCell ⟨w.heap.size, 0, none⟩ (.int .u8 1)) w.heap.size (.int .u8 1) (.bool false) (.int .i64 0) (.int .i64 0) := HB2.out.set0 _
  have hX9 : Ext w (w2.setCell ⟨w.heap.size, 0, none⟩ (.int .u8 1)) := HX2.out.set (by simp) _
  obtain ⟨W9, hW9⟩ : ∃ W9, w2.setCell ⟨w.heap.size, 0, none⟩ (.int .u8 1) = W9 := ⟨_, rfl⟩
  rw [hW9] at hB9 hX9 ⊢
  clear hW9 b0 b1 b2 b3 f0 f1 f2 f3
  have HX9 := Lib.hid hX9
  have HB9 := Lib.hid hB9
  obtain ⟨⟨b0, b1, b2, b3⟩, f0, f1, f2, f3⟩ := hB9
  clear hX9
  go_wp2
  obtain ⟨WF, hWF⟩ : ∃ WF, (((W9.setCell ⟨w.heap.size, 0, none⟩ (.int .u8 1)).setCell ⟨w.heap.size, 1, none⟩ (.bool false)).setCell ⟨w.heap.size, 2, none⟩ (.int .i64 0)).setCell ⟨w.heap.size, 3, none⟩ (.int .i64 0) = WF := ⟨_, rfl⟩
  have HX := Lib.hid (show Ext w WF by rw [← hWF]; exact (((HX9.out.set (by simp) _).set (by simp) _).set (by simp) _).set (by simp) _)
  obtain ⟨y0, y1, y2, y3⟩ := res4 HB9.out.has hWF
  rw [hWF]
  exact bodyPost_ret (v := .tuple #[.agg #[.int .u8 1, .bool false, .int .i64 0, .int .i64 0], .int .i64 (min (max N 1) 201)]) (by simp [results, Tryz.f20, go_sem, y0, y1, y2, y3]) rfl ⟨rfl, HX.out⟩
set_option maxHeartbeats 4000000 in
theorem readn_112E (l R : List UInt8) (N : Int) (hl : l.length ≤ 100000) (hR : R.length + 1 = l.length) (hE : (l == [121, 111]) = false) (hP : [111, 110].isPrefixOf l = false)
    (h0 : ∀ h, (⟨l.toArray⟩ : ByteArray)[0]'h = 112) (hx : (⟨l.toArray⟩ : ByteArray).extract 1 l.length = ⟨R.toArray⟩) (hn : (numR R).1 = N) (he : R.isEmpty = true) (w : World) (hg : Glob w) :
    Calls Tryz.prog 20 #[.string ⟨l.toArray⟩] w fun e w' => e = .returned (.tuple #[.agg #[.int .u8 1, .bool true, .int .i64 0, .int .i64 0], .int .i64 (min (max N 1) 201)]) ∧ Ext w w' := by
  have HG := Lib.hid hg
  have HN := Lib.hid hn
  have HP := Lib.hid hP
  have q0 : (0 : Int) < (l.length : Int) := by omega
  have q2 : (1 : Int) ≤ (l.length : Int) := by omega
  have l0 : l.isEmpty = false := by cases l with
    | nil => simp at hR
    | cons _ _ => rfl
  have m1 : ∀ (ts : Array TypeId) (t : TypeId) (W : World), (Builtin.max_ ts t #[.int .i64 N, .int .i64 1]).run Tryz.prog W = .ok (.int .i64 (max N 1)) W := fun ts t W => run_max_r ts t N 1
  have m2 : ∀ (ts : Array TypeId) (t : TypeId) (W : World), (Builtin.min_ ts t #[.int .i64 (max N 1), .int .i64 201]).run Tryz.prog W = .ok (.int .i64 (min (max N 1) 201)) W := fun ts t W => run_min_r ts t _ _
  clear hg hn hP
  go_enter Tryz.func20, Tryz.ntmps20
  go_upto_region 13 with (first
    | (go_at_call 38; go_loud (((with_reducible refine (prefix_any l [111, 110] _).mono ?_); rintro e w1 ⟨rfl, rfl⟩; rw [HP.out])))
    | (go_at_call 39; go_loud (((with_reducible refine (number_any R (by omega) _ (HG.out.ext (by repeat (first | exact Ext.refl _ | assumption | refine Ext.alloc ?_ _ | refine Ext.drew ?_ | refine Ext.set ?_ (by simp) _ | refine Ext.trans ?_ (by assumption))))).mono ?_); rintro e w2 ⟨rfl, hq2⟩; rw [HN.out]; have HB2 := Lib.hid ((Bx.new w _ _ _ _ _).ext hq2); have HX2 := Lib.hid (Ext.trans ((Ext.refl w).alloc _) hq2); obtain ⟨⟨b0, b1, b2, b3⟩, f0, f1, f2, f3⟩ := HB2.out))))
  have hB9 : Bx (w2.setCell ⟨w.heap.size, 0, none⟩ (.int .u8 1)) w.heap.size (.int .u8 1) (.bool true) (.int .i64 0) (.int .i64 0) := HB2.out.set0 _
  have hX9 : Ext w (w2.setCell ⟨w.heap.size, 0, none⟩ (.int .u8 1)) := HX2.out.set (by simp) _
  obtain ⟨W9, hW9⟩ : ∃ W9, w2.setCell ⟨w.heap.size, 0, none⟩ (.int .u8 1) = W9 := ⟨_, rfl⟩
  rw [hW9] at hB9 hX9 ⊢
  clear hW9 b0 b1 b2 b3 f0 f1 f2 f3
  have HX9 := Lib.hid hX9
  have HB9 := Lib.hid hB9
  obtain ⟨⟨b0, b1, b2, b3⟩, f0, f1, f2, f3⟩ := hB9
  clear hX9
  go_wp2
  obtain ⟨WF, hWF⟩ : ∃ WF, (((W9.setCell ⟨w.heap.size, 0, none⟩ (.int .u8 1)).setCell ⟨w.heap.size, 1, none⟩ (.bool true)).setCell ⟨w.heap.size, 2, none⟩ (.int .i64 0)).setCell ⟨w.heap.size, 3, none⟩ (.int .i64 0) = WF := ⟨_, rfl⟩
  have HX := Lib.hid (show Ext w WF by rw [← hWF]; exact (((HX9.out.set (by simp) _).set (by simp) _).set (by simp) _).set (by simp) _)
  obtain ⟨y0, y1, y2, y3⟩ := res4 HB9.out.has hWF
  rw [hWF]
  exact bodyPost_ret (v := .tuple #[.agg #[.int .u8 1, .bool true, .int .i64 0, .int .i64 0], .int .i64 (min (max N 1) 201)]) (by simp [results, Tryz.f20, go_sem, y0, y1, y2, y3]) rfl ⟨rfl, HX.out⟩
set_option maxHeartbeats 4000000 in
theorem readn_112P (l R : List UInt8) (N : Int) (hl : l.length ≤ 100000) (hR : R.length + 1 = l.length) (hE : (l == [121, 111]) = false) (hP : [111, 110].isPrefixOf l = false)
    (h0 : ∀ h, (⟨l.toArray⟩ : ByteArray)[0]'h = 112) (hx : (⟨l.toArray⟩ : ByteArray).extract 1 l.length = ⟨R.toArray⟩) (hn : (numR R).1 = N) (he : R.isEmpty = false) (h5 : 0 ≤ N) (w : World) (hg : Glob w) :
    Calls Tryz.prog 20 #[.string ⟨l.toArray⟩] w fun e w' => e = .returned (.tuple #[.agg #[.int .u8 1, .bool true, .int .i64 0, .int .i64 0], .int .i64 (min (max N 1) 201)]) ∧ Ext w w' := by
  have HG := Lib.hid hg
  have HN := Lib.hid hn
  have HP := Lib.hid hP
  have q0 : (0 : Int) < (l.length : Int) := by omega
  have q2 : (1 : Int) ≤ (l.length : Int) := by omega
  have l0 : l.isEmpty = false := by cases l with
    | nil => simp at hR
    | cons _ _ => rfl
  have m1 : ∀ (ts : Array TypeId) (t : TypeId) (W : World), (Builtin.max_ ts t #[.int .i64 N, .int .i64 1]).run Tryz.prog W = .ok (.int .i64 (max N 1)) W := fun ts t W => run_max_r ts t N 1
  have m2 : ∀ (ts : Array TypeId) (t : TypeId) (W : World), (Builtin.min_ ts t #[.int .i64 (max N 1), .int .i64 201]).run Tryz.prog W = .ok (.int .i64 (min (max N 1) 201)) W := fun ts t W => run_min_r ts t _ _
  clear hg hn hP
  go_enter Tryz.func20, Tryz.ntmps20
  go_upto_region 13 with (first
    | (go_at_call 38; go_loud (((with_reducible refine (prefix_any l [111, 110] _).mono ?_); rintro e w1 ⟨rfl, rfl⟩; rw [HP.out])))
    | (go_at_call 39; go_loud (((with_reducible refine (number_any R (by omega) _ (HG.out.ext (by repeat (first | exact Ext.refl _ | assumption | refine Ext.alloc ?_ _ | refine Ext.drew ?_ | refine Ext.set ?_ (by simp) _ | refine Ext.trans ?_ (by assumption))))).mono ?_); rintro e w2 ⟨rfl, hq2⟩; rw [HN.out]; have HB2 := Lib.hid ((Bx.new w _ _ _ _ _).ext hq2); have HX2 := Lib.hid (Ext.trans ((Ext.refl w).alloc _) hq2); obtain ⟨⟨b0, b1, b2, b3⟩, f0, f1, f2, f3⟩ := HB2.out))))
  have hB9 : Bx (w2.setCell ⟨w.heap.size, 0, none⟩ (.int .u8 1)) w.heap.size (.int .u8 1) (.bool true) (.int .i64 0) (.int .i64 0) := HB2.out.set0 _
  have hX9 : Ext w (w2.setCell ⟨w.heap.size, 0, none⟩ (.int .u8 1)) := HX2.out.set (by simp) _
  obtain ⟨W9, hW9⟩ : ∃ W9, w2.setCell ⟨w.heap.size, 0, none⟩ (.int .u8 1) = W9 := ⟨_, rfl⟩
  rw [hW9] at hB9 hX9 ⊢
  clear hW9 b0 b1 b2 b3 f0 f1 f2 f3
  have HX9 := Lib.hid hX9
  have HB9 := Lib.hid hB9
  obtain ⟨⟨b0, b1, b2, b3⟩, f0, f1, f2, f3⟩ := hB9
  clear hX9
  go_wp2
  obtain ⟨WF, hWF⟩ : ∃ WF, (((W9.setCell ⟨w.heap.size, 0, none⟩ (.int .u8 1)).setCell ⟨w.heap.size, 1, none⟩ (.bool true)).setCell ⟨w.heap.size, 2, none⟩ (.int .i64 0)).setCell ⟨w.heap.size, 3, none⟩ (.int .i64 0) = WF := ⟨_, rfl⟩
  have HX := Lib.hid (show Ext w WF by rw [← hWF]; exact (((HX9.out.set (by simp) _).set (by simp) _).set (by simp) _).set (by simp) _)
  obtain ⟨y0, y1, y2, y3⟩ := res4 HB9.out.has hWF
  rw [hWF]
  exact bodyPost_ret (v := .tuple #[.agg #[.int .u8 1, .bool true, .int .i64 0, .int .i64 0], .int .i64 (min (max N 1) 201)]) (by simp [results, Tryz.f20, go_sem, y0, y1, y2, y3]) rfl ⟨rfl, HX.out⟩
end Go.Proofs.YtpcefmopoceiiaaGreatDoor
