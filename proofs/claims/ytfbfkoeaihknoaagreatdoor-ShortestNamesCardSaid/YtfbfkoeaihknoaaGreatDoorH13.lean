/- The other ways through read; and what read returns of whatever word. -/
import Derived.Test.YtfbfkoeaihknoaaGreatDoorH12
namespace Go.Proofs.YtfbfkoeaihknoaaGreatDoor
set_option maxRecDepth 100000
open Go.RowKit
theorem run_min_r {P : Program} {w : World} (ts : Array TypeId) (t : TypeId) (x y : Int) : (Builtin.min_ ts t #[.int .i64 x, .int .i64 y]).run P w = .ok (.int .i64 (min x y)) w := by
  rw [run_min_int2]
  congr 2
  split <;> omega
set_option maxHeartbeats 2000000 in
theorem read_yo (l : List UInt8) (hE : (l == [121, 111]) = true) (w : World) :
    Calls Tryz.prog 93 #[.string ⟨l.toArray⟩] w fun e w' => e = .returned (.tuple #[.agg #[.int .u8 2, .bool false, .int .i64 0, .int .i64 0], .int .i64 1]) ∧ Ext w w' := by
  go_enter Tryz.func93, Tryz.ntmps93
  go_wp2
  exact bodyPost_ret (v := .tuple #[.agg #[.int .u8 2, .bool false, .int .i64 0, .int .i64 0], .int .i64 1]) (by simp [results, Tryz.f93, go_sem]) rfl ⟨rfl, by repeat (first | exact Ext.refl _ | assumption | refine Ext.alloc ?_ _ | refine Ext.drew ?_ | refine Ext.set ?_ (by simp) _ | refine Ext.trans ?_ (by assumption))⟩
set_option maxHeartbeats 2000000 in
theorem read_on (l T : List UInt8) (hl : l.length ≤ 100000) (hE : (l == [121, 111]) = false) (hP : [111, 110].isPrefixOf l = true) (h2 : 2 ≤ l.length) (hT : T.length ≤ l.length) (hx : (⟨l.toArray⟩ : ByteArray).extract 2 l.length = ⟨T.toArray⟩) (w : World) (hg : Glob w) :
    Calls Tryz.prog 93 #[.string ⟨l.toArray⟩] w fun e w' => e = .returned (.tuple #[.agg #[.int .u8 9, .bool false, .int .i64 (numR T).1, .int .i64 0], .int .i64 1]) ∧ Ext w w' := by
  have HG := Lib.hid hg
  have HP := Lib.hid hP
  have q0 : (2 : Int) ≤ (l.length : Int) := by omega
  clear hg hP
  go_enter Tryz.func93, Tryz.ntmps93
  go_upto_region 5 with (first
    | (go_at_call 107; go_loud (((with_reducible refine (prefix_any l [111, 110] _).mono ?_); rintro e w1 ⟨rfl, rfl⟩; rw [HP.out])))
    | (go_at_call 108; go_loud (((with_reducible refine (number_any T (by omega) _ (HG.out.ext (by repeat (first | exact Ext.refl _ | assumption | refine Ext.alloc ?_ _ | refine Ext.drew ?_ | refine Ext.set ?_ (by simp) _ | refine Ext.trans ?_ (by assumption))))).mono ?_); rintro e w2 ⟨rfl, hq2⟩; have HB2 := Lib.hid ((Bx.new w _ _ _ _ _).ext hq2); have HX2 := Lib.hid (Ext.trans ((Ext.refl w).alloc _) hq2); obtain ⟨⟨b0, b1, b2, b3⟩, f0, f1, f2, f3⟩ := HB2.out))))
  go_wp2
  obtain ⟨WF, hWF⟩ : ∃ WF, (((w2.setCell ⟨w.heap.size, 0, none⟩ (.int .u8 9)).setCell ⟨w.heap.size, 1, none⟩ (.bool false)).setCell ⟨w.heap.size, 2, none⟩ (.int .i64 (numR T).1)).setCell ⟨w.heap.size, 3, none⟩ (.int .i64 0) = WF := ⟨_, rfl⟩
  have HX := Lib.hid (show Ext w WF by rw [← hWF]; exact (((HX2.out.set (by simp) _).set (by simp) _).set (by simp) _).set (by simp) _)
  obtain ⟨y0, y1, y2, y3⟩ := res4 HB2.out.has hWF
  rw [hWF]
  exact bodyPost_ret (v := .tuple #[.agg #[.int .u8 9, .bool false, .int .i64 (numR T).1, .int .i64 0], .int .i64 1]) (by simp [results, Tryz.f93, go_sem, y0, y1, y2, y3]) rfl ⟨rfl, HX.out⟩
set_option maxHeartbeats 2000000 in
theorem read_no (l : List UInt8) (hE : (l == [121, 111]) = false) (hP : [111, 110].isPrefixOf l = false) (he : l.isEmpty = true) (w : World) :
    Calls Tryz.prog 93 #[.string ⟨l.toArray⟩] w fun e w' => e = .returned (.tuple #[.agg #[.int .u8 0, .bool false, .int .i64 0, .int .i64 0], .int .i64 1]) ∧ Ext w w' := by
  have HP := Lib.hid hP
  clear hP
  go_enter Tryz.func93, Tryz.ntmps93
  go_wp2_with (go_at_call 107; go_loud (((with_reducible refine (prefix_any l [111, 110] _).mono ?_); rintro e w1 ⟨rfl, rfl⟩; rw [HP.out])))
  exact bodyPost_ret (v := .tuple #[.agg #[.int .u8 0, .bool false, .int .i64 0, .int .i64 0], .int .i64 1]) (by simp [results, Tryz.f93, go_sem]) rfl ⟨rfl, by repeat (first | exact Ext.refl _ | assumption | refine Ext.alloc ?_ _ | refine Ext.drew ?_ | refine Ext.set ?_ (by simp) _ | refine Ext.trans ?_ (by assumption))⟩
set_option maxHeartbeats 2000000 in
theorem read_bad (l : List UInt8) (c : UInt8) (hE : (l == [121, 111]) = false) (hP : [111, 110].isPrefixOf l = false) (he : l.isEmpty = false) (hl : 0 < l.length) (h0 : ∀ h, (⟨l.toArray⟩ : ByteArray)[0]'h = c) (h1 : ((c.toNat : Int) != 107) = true) (h2 : ((c.toNat : Int) != 112) = true) (w : World) :
    Calls Tryz.prog 93 #[.string ⟨l.toArray⟩] w fun e w' => e = .returned (.tuple #[.agg #[.int .u8 0, .bool false, .int .i64 0, .int .i64 0], .int .i64 1]) ∧ Ext w w' := by
  have HP := Lib.hid hP
  have q0 : (0 : Int) < (l.length : Int) := by omega
  clear hP
  go_enter Tryz.func93, Tryz.ntmps93
  go_wp2_with (go_at_call 107; go_loud (((with_reducible refine (prefix_any l [111, 110] _).mono ?_); rintro e w1 ⟨rfl, rfl⟩; rw [HP.out])))
  exact bodyPost_ret (v := .tuple #[.agg #[.int .u8 0, .bool false, .int .i64 0, .int .i64 0], .int .i64 1]) (by simp [results, Tryz.f93, go_sem]) rfl ⟨rfl, by repeat (first | exact Ext.refl _ | assumption | refine Ext.alloc ?_ _ | refine Ext.drew ?_ | refine Ext.set ?_ (by simp) _ | refine Ext.trans ?_ (by assumption))⟩
set_option maxHeartbeats 4000000 in
theorem readn_107E (l R : List UInt8) (N : Int) (hl : l.length ≤ 100000) (hR : R.length + 1 = l.length) (hE : (l == [121, 111]) = false) (hP : [111, 110].isPrefixOf l = false)
    (h0 : ∀ h, (⟨l.toArray⟩ : ByteArray)[0]'h = 107) (hx : (⟨l.toArray⟩ : ByteArray).extract 1 l.length = ⟨R.toArray⟩) (hn : (numR R).1 = N) (he : R.isEmpty = true) (w : World) (hg : Glob w) :
    Calls Tryz.prog 93 #[.string ⟨l.toArray⟩] w fun e w' => e = .returned (.tuple #[.agg #[.int .u8 1, .bool false, .int .i64 0, .int .i64 0], .int .i64 (min (max N 1) 201)]) ∧ Ext w w' := by
  have HG := Lib.hid hg
  have HN := Lib.hid hn
  have HP := Lib.hid hP
  have q0 : (0 : Int) < (l.length : Int) := by omega
  have q2 : (1 : Int) ≤ (l.length : Int) := by omega
  have l0 : l.isEmpty = false := by cases l with
    | nil => simp at hR
    | cons _ _ => rfl
  have m1 : ∀ (ts : Array TypeId) (t : TypeId) (W : World), (Builtin.max_ ts t #[.int .i64 N, .int .i64 1]).run Tryz.prog W = .ok (.int .i64 (max N 1)) W := fun ts t W => run_max_r ts t N 1
  have m2 : ∀ (ts : Array TypeId) (t : TypeId) (W : World), (Builtin.min_ ts t #[.int .i64 (max N 1), .int .i64 201]).run Tryz.prog W = .ok (.int .i64 (min (max N 1) 201)) W := fun ts t W => run_min_r ts t _ _
  clear hg hn hP
  go_enter Tryz.func93, Tryz.ntmps93
  go_upto_region 13 with (first
    | (go_at_call 107; go_loud (((with_reducible refine (prefix_any l [111, 110] _).mono ?_); rintro e w1 ⟨rfl, rfl⟩; rw [HP.out])))
    | (go_at_call 108; go_loud (((with_reducible refine (number_any R (by omega) _ (HG.out.ext (by repeat (first | exact Ext.refl _ | assumption | refine Ext.alloc ?_ _ | refine Ext.drew ?_ | refine Ext.set ?_ (by simp) _ | refine Ext.trans ?_ (by assumption))))).mono ?_); rintro e w2 ⟨rfl, hq2⟩; rw [HN.out]; have HB2 := Lib.hid ((Bx.new w _ _ _ _ _).ext hq2); have HX2 := Lib.hid (Ext.trans ((Ext.refl w).alloc _) hq2); obtain ⟨⟨b0, b1, b2, b3⟩, f0, f1, f2, f3⟩ := HB2.out))))
  have hB9 : Bx (w2.setCell ⟨w.heap.size, 0, none⟩ (.int .u8 1)) w.heap.size (.int .u8 1) (.bool false) (.int .i64 0) (.int .i64 0) := HB2.out.set0 _
  have hX9 : Ext w (w2.setCell ⟨w.heap.size, 0, none⟩ (.int .u8 1)) := HX2.out.set (by simp) _
  obtain ⟨W9, hW9⟩ : ∃ W9, w2.setCell ⟨w.heap.size, 0, none⟩ (.int .u8 1) = W9 := ⟨_, rfl⟩
  rw [hW9] at hB9 hX9 ⊢
  clear hW9 b0 b1 b2 b3 f0 f1 f2 f3
  have HX9 := Lib.hid hX9
  have HB9 := Lib.hid hB9
  obtain ⟨⟨b0, b1, b2, b3⟩, f0, f1, f2, f3⟩ := hB9
  clear hX9
  go_wp2
  obtain ⟨WF, hWF⟩ : ∃ WF, (((W9.setCell ⟨w.heap.size, 0, none⟩ (.int .u8 1)).setCell ⟨w.heap.size, 1, none⟩ (.bool false)).setCell ⟨w.heap.size, 2, none⟩ (.int .i64 0)).setCell ⟨w.heap.size, 3, none⟩ (.int .i64 0) = WF := ⟨_, rfl⟩
  have HX := Lib.hid (show Ext w WF by rw [← hWF]; exact (((HX9.out.set (by simp) _).set (by simp) _).set (by simp) _).set (by simp) _)
  obtain ⟨y0, y1, y2, y3⟩ := res4 HB9.out.has hWF
  rw [hWF]
  exact bodyPost_ret (v := .tuple #[.agg #[.int .u8 1, .bool false, .int .i64 0, .int .i64 0], .int .i64 (min (max N 1) 201)]) (by simp [results, Tryz.f93, go_sem, y0, y1, y2, y3]) rfl ⟨rfl, HX.out⟩
set_option maxHeartbeats 4000000 in
theorem readn_107P (l R : List UInt8) (N : Int) (hl : l.length ≤ 100000) (hR : R.length + 1 = l.length) (hE : (l == [121, 111]) = false) (hP : [111, 110].isPrefixOf l = false)
    (h0 : ∀ h, (⟨l.toArray⟩ : ByteArray)[0]'h = 107) (hx : (⟨l.toArray⟩ : ByteArray).extract 1 l.length = ⟨R.toArray⟩) (hn : (numR R).1 = N) (he : R.isEmpty = false) (h5 : 0 ≤ N) (w : World) (hg : Glob w) :
    Calls Tryz.prog 93 #[.string ⟨l.toArray⟩] w fun e w' => e = .returned (.tuple #[.agg #[.int .u8 1, .bool false, .int .i64 0, .int .i64 0], .int .i64 (min (max N 1) 201)]) ∧ Ext w w' := by
  have HG := Lib.hid hg
  have HN := Lib.hid hn
  have HP := Lib.hid hP
  have q0 : (0 : Int) < (l.length : Int) := by omega
  have q2 : (1 : Int) ≤ (l.length : Int) := by omega
  have l0 : l.isEmpty = false := by cases l with
    | nil => simp at hR
    | cons _ _ => rfl
  have m1 : ∀ (ts : Array TypeId) (t : TypeId) (W : World), (Builtin.max_ ts t #[.int .i64 N, .int .i64 1]).run Tryz.prog W = .ok (.int .i64 (max N 1)) W := fun ts t W => run_max_r ts t N 1
  have m2 : ∀ (ts : Array TypeId) (t : TypeId) (W : World), (Builtin.min_ ts t #[.int .i64 (max N 1), .int .i64 201]).run Tryz.prog W = .ok (.int .i64 (min (max N 1) 201)) W := fun ts t W => run_min_r ts t _ _
  clear hg hn hP
  go_enter Tryz.func93, Tryz.ntmps93
  go_upto_region 13 with (first
    | (go_at_call 107; go_loud (((with_reducible refine (prefix_any l [111, 110] _).mono ?_); rintro e w1 ⟨rfl, rfl⟩; rw [HP.out])))
    | (go_at_call 108; go_loud (((with_reducible refine (number_any R (by omega) _ (HG.out.ext (by repeat (first | exact Ext.refl _ | assumption | refine Ext.alloc ?_ _ | refine Ext.drew ?_ | refine Ext.set ?_ (by simp) _ | refine Ext.trans ?_ (by assumption))))).mono ?_); rintro e w2 ⟨rfl, hq2⟩; rw [HN.out]; have HB2 := Lib.hid ((Bx.new w _ _ _ _ _).ext hq2); have HX2 := Lib.hid (Ext.trans ((Ext.refl w).alloc _) hq2); obtain ⟨⟨b0, b1, b2, b3⟩, f0, f1, f2, f3⟩ := HB2.out))))
  have hB9 : Bx (w2.setCell ⟨w.heap.size, 0, none⟩ (.int .u8 1)) w.heap.size (.int .u8 1) (.bool false) (.int .i64 0) (.int .i64 0) := HB2.out.set0 _
  have hX9 : Ext w (w2.setCell ⟨w.heap.size, 0, none⟩ (.int .u8 1)) := HX2.out.set (by simp) _
  obtain ⟨W9, hW9⟩ : ∃ W9, w2.setCell ⟨w.heap.size, 0, none⟩ (.int .u8 1) = W9 := ⟨_, rfl⟩
  rw [hW9] at hB9 hX9 ⊢
  clear hW9 b0 b1 b2 b3 f0 f1 f2 f3
  have HX9 := Lib.hid hX9
  have HB9 := Lib.hid hB9
  obtain ⟨⟨b0, b1, b2, b3⟩, f0, f1, f2, f3⟩ := hB9
  clear hX9
  go_wp2
  obtain ⟨WF, hWF⟩ : ∃ WF, (((W9.setCell ⟨w.heap.size, 0, none⟩ (.int .u8 1)).setCell ⟨w.heap.size, 1, none⟩ (.bool false)).setCell ⟨w.heap.size, 2, none⟩ (.int .i64 0)).setCell ⟨w.heap.size, 3, none⟩ (.int .i64 0) = WF := ⟨_, rfl⟩
  have HX := Lib.hid (show Ext w WF by rw [← hWF]; exact (((HX9.out.set (by simp) _).set (by simp) _).set (by simp) _).set (by simp) _)
  obtain ⟨y0, y1, y2, y3⟩ := res4 HB9.out.has hWF
  rw [hWF]
  exact bodyPost_ret (v := .tuple #[.agg #[.int .u8 1, .bool false, .int .i64 0, .int .i64 0], .int .i64 (min (max N 1) 201)]) (by simp [results, Tryz.f93, go_sem, y0, y1, y2, y3]) rfl ⟨rfl, HX.out⟩
set_option maxHeartbeats 4000000 in
theorem readn_112E (l R : List UInt8) (N : Int) (hl : l.length ≤ 100000) (hR : R.length + 1 = l.length) (hE : (l == [121, 111]) = false) (hP : [111, 110].isPrefixOf l = false)
    (h0 : ∀ h, (⟨l.toArray⟩ : ByteArray)[0]'h = 112) (hx : (⟨l.toArray⟩ : ByteArray).extract 1 l.length = ⟨R.toArray⟩) (hn : (numR R).1 = N) (he : R.isEmpty = true) (w : World) (hg : Glob w) :
    Calls Tryz.prog 93 #[.string ⟨l.toArray⟩] w fun e w' => e = .returned (.tuple #[.agg #[.int .u8 1, .bool true, .int .i64 0, .int .i64 0], .int .i64 (min (max N 1) 201)]) ∧ Ext w w' := by
  have HG := Lib.hid hg
  have HN := Lib.hid hn
  have HP := Lib.hid hP
  have q0 : (0 : Int) < (l.length : Int) := by omega
  have q2 : (1 : Int) ≤ (l.length : Int) := by omega
  have l0 : l.isEmpty = false := by cases l with
    | nil => simp at hR
    | cons _ _ => rfl
  have m1 : ∀ (ts : Array TypeId) (t : TypeId) (W : World), (Builtin.max_ ts t #[.int .i64 N, .int .i64 1]).run Tryz.prog W = .ok (.int .i64 (max N 1)) W := fun ts t W => run_max_r ts t N 1
  have m2 : ∀ (ts : Array TypeId) (t : TypeId) (W : World), (Builtin.min_ ts t #[.int .i64 (max N 1), .int .i64 201]).run Tryz.prog W = .ok (.int .i64 (min (max N 1) 201)) W := fun ts t W => run_min_r ts t _ _
  clear hg hn hP
  go_enter Tryz.func93, Tryz.ntmps93
  go_upto_region 13 with (first
    | (go_at_call 107; go_loud (((with_reducible refine (prefix_any l [111, 110] _).mono ?_); rintro e w1 ⟨rfl, rfl⟩; rw [HP.out])))
    | (go_at_call 108; go_loud (((with_reducible refine (number_any R (by omega) _ (HG.out.ext (by repeat (first | exact Ext.refl _ | assumption | refine Ext.alloc ?_ _ | refine Ext.drew ?_ | refine Ext.set ?_ (by simp) _ | refine Ext.trans ?_ (by assumption))))).mono ?_); rintro e w2 ⟨rfl, hq2⟩; rw [HN.out]; have HB2 := Lib.hid ((Bx.new w _ _ _ _ _).ext hq2); have HX2 := Lib.hid (Ext.trans ((Ext.refl w).alloc _) hq2); obtain ⟨⟨b0, b1, b2, b3⟩, f0, f1, f2, f3⟩ := HB2.out))))
  have hB9 : Bx (w2.setCell ⟨w.heap.size, 0, none⟩ (.int .u8 1)) w.heap.size (.int .u8 1) (.bool true) (.int .i64 0) (.int .i64 0) := HB2.out.set0 _
  have hX9 : Ext w (w2.setCell ⟨w.heap.size, 0, none⟩ (.int .u8 1)) := HX2.out.set (by simp) _
  obtain ⟨W9, hW9⟩ : ∃ W9, w2.setCell ⟨w.heap.size, 0, none⟩ (.int .u8 1) = W9 := ⟨_, rfl⟩
  rw [hW9] at hB9 hX9 ⊢
  clear hW9 b0 b1 b2 b3 f0 f1 f2 f3
  have HX9 := Lib.hid hX9
  have HB9 := Lib.hid hB9
  obtain ⟨⟨b0, b1, b2, b3⟩, f0, f1, f2, f3⟩ := hB9
  clear hX9
  go_wp2
  obtain ⟨WF, hWF⟩ : ∃ WF, (((W9.setCell ⟨w.heap.size, 0, none⟩ (.int .u8 1)).setCell ⟨w.heap.size, 1, none⟩ (.bool true)).setCell ⟨w.heap.size, 2, none⟩ (.int .i64 0)).setCell ⟨w.heap.size, 3, none⟩ (.int .i64 0) = WF := ⟨_, rfl⟩
  have HX := Lib.hid (show Ext w WF by rw [← hWF]; exact (((HX9.out.set (by simp) _).set (by simp) _).set (by simp) _).set (by simp) _)
  obtain ⟨y0, y1, y2, y3⟩ := res4 HB9.out.has hWF
  rw [hWF]
  exact bodyPost_ret (v := .tuple #[.agg #[.int .u8 1, .bool true, .int .i64 0, .int .i64 0], .int .i64 (min (max N 1) 201)]) (by simp [results, Tryz.f93, go_sem, y0, y1, y2, y3]) rfl ⟨rfl, HX.out⟩
set_option maxHeartbeats 4000000 in
theorem readn_112P (l R : List UInt8) (N : Int) (hl : l.length ≤ 100000) (hR : R.length + 1 = l.length) (hE : (l == [121, 111]) = false) (hP : [111, 110].isPrefixOf l = false)
    (h0 : ∀ h, (⟨l.toArray⟩ : ByteArray)[0]'h = 112) (hx : (⟨l.toArray⟩ : ByteArray).extract 1 l.length = ⟨R.toArray⟩) (hn : (numR R).1 = N) (he : R.isEmpty = false) (h5 : 0 ≤ N) (w : World) (hg : Glob w) :
    Calls Tryz.prog 93 #[.string ⟨l.toArray⟩] w fun e w' => e = .returned (.tuple #[.agg #[.int .u8 1, .bool true, .int .i64 0, .int .i64 0], .int .i64 (min (max N 1) 201)]) ∧ Ext w w' := by
  have HG := Lib.hid hg
  have HN := Lib.hid hn
  have HP := Lib.hid hP
  have q0 : (0 : Int) < (l.length : Int) := by omega
  have q2 : (1 : Int) ≤ (l.length : Int) := by omega
  have l0 : l.isEmpty = false := by cases l with
    | nil => simp at hR
    | cons _ _ => rfl
  have m1 : ∀ (ts : Array TypeId) (t : TypeId) (W : World), (Builtin.max_ ts t #[.int .i64 N, .int .i64 1]).run Tryz.prog W = .ok (.int .i64 (max N 1)) W := fun ts t W => run_max_r ts t N 1
  have m2 : ∀ (ts : Array TypeId) (t : TypeId) (W : World), (Builtin.min_ ts t #[.int .i64 (max N 1), .int .i64 201]).run Tryz.prog W = .ok (.int .i64 (min (max N 1) 201)) W := fun ts t W => run_min_r ts t _ _
  clear hg hn hP
  go_enter Tryz.func93, Tryz.ntmps93
  go_upto_region 13 with (first
    | (go_at_call 107; go_loud (((with_reducible refine (prefix_any l [111, 110] _).mono ?_); rintro e w1 ⟨rfl, rfl⟩; rw [HP.out])))
    | (go_at_call 108; go_loud (((with_reducible refine (number_any R (by omega) _ (HG.out.ext (by repeat (first | exact Ext.refl _ | assumption | refine Ext.alloc ?_ _ | refine Ext.drew ?_ | refine Ext.set ?_ (by simp) _ | refine Ext.trans ?_ (by assumption))))).mono ?_); rintro e w2 ⟨rfl, hq2⟩; rw [HN.out]; have HB2 := Lib.hid ((Bx.new w _ _ _ _ _).ext hq2); have HX2 := Lib.hid (Ext.trans ((Ext.refl w).alloc _) hq2); obtain ⟨⟨b0, b1, b2, b3⟩, f0, f1, f2, f3⟩ := HB2.out))))
  have hB9 : Bx (w2.setCell ⟨w.heap.size, 0, none⟩ (.int .u8 1)) w.heap.size (.int .u8 1) (.bool true) (.int .i64 0) (.int .i64 0) := HB2.out.set0 _
  have hX9 : Ext w (w2.setCell ⟨w.heap.size, 0, none⟩ (.int .u8 1)) := HX2.out.set (by simp) _
  obtain ⟨W9, hW9⟩ : ∃ W9, w2.setCell ⟨w.heap.size, 0, none⟩ (.int .u8 1) = W9 := ⟨_, rfl⟩
  rw [hW9] at hB9 hX9 ⊢
  clear hW9 b0 b1 b2 b3 f0 f1 f2 f3
  have HX9 := Lib.hid hX9
  have HB9 := Lib.hid hB9
  obtain ⟨⟨b0, b1, b2, b3⟩, f0, f1, f2, f3⟩ := hB9
  clear hX9
  go_wp2
  obtain ⟨WF, hWF⟩ : ∃ WF, (((W9.setCell ⟨w.heap.size, 0, none⟩ (.int .u8 1)).setCell ⟨w.heap.size, 1, none⟩ (.bool true)).setCell ⟨w.heap.size, 2, none⟩ (.int .i64 0)).setCell ⟨w.heap.size, 3, none⟩ (.int .i64 0) = WF := ⟨_, rfl⟩
  have HX := Lib.hid (show Ext w WF by rw [← hWF]; exact (((HX9.out.set (by simp) _).set (by simp) _).set (by simp) _).set (by simp) _)
  obtain ⟨y0, y1, y2, y3⟩ := res4 HB9.out.has hWF
  rw [hWF]
  exact bodyPost_ret (v := .tuple #[.agg #[.int .u8 1, .bool true, .int .i64 0, .int .i64 0], .int .i64 (min (max N 1) 201)]) (by simp [results, Tryz.f93, go_sem, y0, y1, y2, y3]) rfl ⟨rfl, HX.out⟩
end Go.Proofs.YtfbfkoeaihknoaaGreatDoor
/- What read returns of whatever word. -/
namespace Go.Proofs.YtfbfkoeaihknoaaGreatDoor
set_option maxRecDepth 100000
open Go.RowKit
/-- a call of read has returned this stitch and number -/
def ReadR (x : St × Int) (w : World) (e : Ending) (w' : World) : Prop := e = .returned (.tuple #[.agg #[.int .u8 x.1.k, .bool x.1.p, .int .i64 x.1.a, .int .i64 x.1.b], .int .i64 x.2]) ∧ Ext w w'
theorem read_as {l : List UInt8} {x : St × Int} {w : World} {k : Int} {p : Bool} {a b n : Int} (h : Calls Tryz.prog 93 #[.string ⟨l.toArray⟩] w fun e w' => e = .returned (.tuple #[.agg #[.int .u8 k, .bool p, .int .i64 a, .int .i64 b], .int .i64 n]) ∧ Ext w w') (hx : x = (⟨k, p, a, b⟩, n)) :
    Calls Tryz.prog 93 #[.string ⟨l.toArray⟩] w (ReadR x w) := by
  subst hx
  exact h
theorem numR_neg {l : List UInt8} (h : ¬ 0 ≤ (numR l).1) : (numR l).1 = -1 := by
  unfold numR at h ⊢
  split
  · rfl
  · rename_i h1
    rw [if_neg h1] at h
    exact absurd (Int.natCast_nonneg _) h
theorem letter_none {d : UInt8} (h1 : d ≠ 102) (h2 : d ≠ 108) (h3 : d ≠ 109) (h4 : d ≠ 120) (h5 : d ≠ 121) (h6 : d ≠ 115) (h7 : d ≠ 111) (h8 : d ≠ 63) : Lib.indexByte letters d = -1 ∧ kindL d = 3 := by
  constructor
  · simp [letters, Lib.indexByte, Ne.symm h1, Ne.symm h2, Ne.symm h3, Ne.symm h4, Ne.symm h5, Ne.symm h6, Ne.symm h7, Ne.symm h8]
  · simp [kindL, h1, h2, h3, h4, h5, h6, h7, h8]
theorem readk_107 (d : UInt8) (r : List UInt8) (hl : (107 :: d :: r : List UInt8).length ≤ 100000) (hn : (numR (d :: r)).1 = -1) (w : World) (hg : Glob w) :
    Calls Tryz.prog 93 #[.string ⟨(107 :: d :: r : List UInt8).toArray⟩] w (ReadR (readK false d r, 1) w) := by
  have hE : ((107 :: d :: r : List UInt8) == [121, 111]) = false := by simp
  have hP : [111, 110].isPrefixOf (107 :: d :: r : List UInt8) = false := by simp [List.isPrefixOf]
  have h0 := str_at (107 :: d :: r) 0
  have hx := str_extD (107 :: d :: r) 1 _ (Nat.le_refl _)
  have h1 := str_at (d :: r) 0
  have hx2 := str_extD (d :: r) 1 _ (Nat.le_refl _)
  simp only [List.getD_cons_zero, List.drop_succ_cons, List.drop_zero] at h0 h1 hx hx2
  by_cases h09 : d = 102
  · subst h09
    exact read_as (readk_0_107 (107 :: 102 :: r) (102 :: r) r 102 hl (by simp) (by simp) hE hP h0 hx h1 hx2 hn rfl w hg) rfl
  by_cases h19 : d = 108
  · subst h19
    exact read_as (readk_1_107 (107 :: 108 :: r) (108 :: r) r 108 hl (by simp) (by simp) hE hP h0 hx h1 hx2 hn rfl w hg) rfl
  by_cases h29 : d = 109
  · subst h29
    exact read_as (readk_2_107 (107 :: 109 :: r) (109 :: r) r 109 hl (by simp) (by simp) hE hP h0 hx h1 hx2 hn rfl w hg) rfl
  by_cases h39 : d = 120
  · subst h39
    exact read_as (readk_3_107 (107 :: 120 :: r) (120 :: r) r 120 hl (by simp) (by simp) hE hP h0 hx h1 hx2 hn rfl w hg) rfl
  by_cases h49 : d = 121
  · subst h49
    exact read_as (readk_4_107 (107 :: 121 :: r) (121 :: r) r 121 hl (by simp) (by simp) hE hP h0 hx h1 hx2 hn rfl w hg) rfl
  by_cases h59 : d = 115
  · subst h59
    exact read_as (readk_5_107 (107 :: 115 :: r) (115 :: r) r 115 hl (by simp) (by simp) hE hP h0 hx h1 hx2 hn rfl w hg) rfl
  by_cases h69 : d = 111
  · subst h69
    exact read_as (readk_6_107 (107 :: 111 :: r) (111 :: r) r 111 hl (by simp) (by simp) hE hP h0 hx h1 hx2 hn rfl w hg) rfl
  by_cases h79 : d = 63
  · subst h79
    exact read_as (readk_7_107 (107 :: 63 :: r) (63 :: r) r 63 hl (by simp) (by simp) hE hP h0 hx h1 hx2 hn rfl w hg) rfl
  obtain ⟨hi, hk⟩ := letter_none h09 h19 h29 h39 h49 h59 h69 h79
  refine read_as (readk_m_107 (107 :: d :: r) (d :: r) r d hl (by simp) (by simp) hE hP h0 hx h1 hx2 hn hi w hg) ?_
  unfold readK
  rw [hk]
  rfl
theorem readall_107 (R : List UInt8) (hl : (107 :: R : List UInt8).length ≤ 100000) (w : World) (hg : Glob w) :
    Calls Tryz.prog 93 #[.string ⟨(107 :: R : List UInt8).toArray⟩] w (ReadR (readW (107 :: R)) w) := by
  have hE : ((107 :: R : List UInt8) == [121, 111]) = false := by simp
  have hP : [111, 110].isPrefixOf (107 :: R : List UInt8) = false := by simp [List.isPrefixOf]
  have h0 := str_at (107 :: R) 0
  have hx := str_extD (107 :: R) 1 _ (Nat.le_refl _)
  simp only [List.getD_cons_zero, List.drop_succ_cons, List.drop_zero] at h0 hx
  cases R with
  | nil => exact read_as (readn_107E [107] [] (-1) hl rfl hE hP h0 hx rfl rfl w hg) rfl
  | cons d r =>
    by_cases h5 : 0 ≤ (numR (d :: r)).1
    · refine read_as (readn_107P (107 :: d :: r) (d :: r) (numR (d :: r)).1 hl rfl hE hP h0 hx rfl rfl h5 w hg) ?_
      simp [readW, h5]
    · have h6 := readk_107 d r hl (numR_neg h5) w hg
      have h7 : readW (107 :: d :: r) = (readK false d r, 1) := by simp [readW, h5]
      rw [h7]
      exact h6
theorem readk_112 (d : UInt8) (r : List UInt8) (hl : (112 :: d :: r : List UInt8).length ≤ 100000) (hn : (numR (d :: r)).1 = -1) (w : World) (hg : Glob w) :
    Calls Tryz.prog 93 #[.string ⟨(112 :: d :: r : List UInt8).toArray⟩] w (ReadR (readK true d r, 1) w) := by
  have hE : ((112 :: d :: r : List UInt8) == [121, 111]) = false := by simp
  have hP : [111, 110].isPrefixOf (112 :: d :: r : List UInt8) = false := by simp [List.isPrefixOf]
  have h0 := str_at (112 :: d :: r) 0
  have hx := str_extD (112 :: d :: r) 1 _ (Nat.le_refl _)
  have h1 := str_at (d :: r) 0
  have hx2 := str_extD (d :: r) 1 _ (Nat.le_refl _)
  simp only [List.getD_cons_zero, List.drop_succ_cons, List.drop_zero] at h0 h1 hx hx2
  by_cases h09 : d = 102
  · subst h09
    exact read_as (readk_0_112 (112 :: 102 :: r) (102 :: r) r 102 hl (by simp) (by simp) hE hP h0 hx h1 hx2 hn rfl w hg) rfl
  by_cases h19 : d = 108
  · subst h19
    exact read_as (readk_1_112 (112 :: 108 :: r) (108 :: r) r 108 hl (by simp) (by simp) hE hP h0 hx h1 hx2 hn rfl w hg) rfl
  by_cases h29 : d = 109
  · subst h29
    exact read_as (readk_2_112 (112 :: 109 :: r) (109 :: r) r 109 hl (by simp) (by simp) hE hP h0 hx h1 hx2 hn rfl w hg) rfl
  by_cases h39 : d = 120
  · subst h39
    exact read_as (readk_3_112 (112 :: 120 :: r) (120 :: r) r 120 hl (by simp) (by simp) hE hP h0 hx h1 hx2 hn rfl w hg) rfl
  by_cases h49 : d = 121
  · subst h49
    exact read_as (readk_4_112 (112 :: 121 :: r) (121 :: r) r 121 hl (by simp) (by simp) hE hP h0 hx h1 hx2 hn rfl w hg) rfl
  by_cases h59 : d = 115
  · subst h59
    exact read_as (readk_5_112 (112 :: 115 :: r) (115 :: r) r 115 hl (by simp) (by simp) hE hP h0 hx h1 hx2 hn rfl w hg) rfl
  by_cases h69 : d = 111
  · subst h69
    exact read_as (readk_6_112 (112 :: 111 :: r) (111 :: r) r 111 hl (by simp) (by simp) hE hP h0 hx h1 hx2 hn rfl w hg) rfl
  by_cases h79 : d = 63
  · subst h79
    exact read_as (readk_7_112 (112 :: 63 :: r) (63 :: r) r 63 hl (by simp) (by simp) hE hP h0 hx h1 hx2 hn rfl w hg) rfl
  obtain ⟨hi, hk⟩ := letter_none h09 h19 h29 h39 h49 h59 h69 h79
  refine read_as (readk_m_112 (112 :: d :: r) (d :: r) r d hl (by simp) (by simp) hE hP h0 hx h1 hx2 hn hi w hg) ?_
  unfold readK
  rw [hk]
  rfl
theorem readall_112 (R : List UInt8) (hl : (112 :: R : List UInt8).length ≤ 100000) (w : World) (hg : Glob w) :
    Calls Tryz.prog 93 #[.string ⟨(112 :: R : List UInt8).toArray⟩] w (ReadR (readW (112 :: R)) w) := by
  have hE : ((112 :: R : List UInt8) == [121, 111]) = false := by simp
  have hP : [111, 110].isPrefixOf (112 :: R : List UInt8) = false := by simp [List.isPrefixOf]
  have h0 := str_at (112 :: R) 0
  have hx := str_extD (112 :: R) 1 _ (Nat.le_refl _)
  simp only [List.getD_cons_zero, List.drop_succ_cons, List.drop_zero] at h0 hx
  cases R with
  | nil => exact read_as (readn_112E [112] [] (-1) hl rfl hE hP h0 hx rfl rfl w hg) rfl
  | cons d r =>
    by_cases h5 : 0 ≤ (numR (d :: r)).1
    · refine read_as (readn_112P (112 :: d :: r) (d :: r) (numR (d :: r)).1 hl rfl hE hP h0 hx rfl rfl h5 w hg) ?_
      simp [readW, h5]
    · have h6 := readk_112 d r hl (numR_neg h5) w hg
      have h7 : readW (112 :: d :: r) = (readK true d r, 1) := by simp [readW, h5]
      rw [h7]
      exact h6
theorem read_any (l : List UInt8) (hl : l.length ≤ 100000) (w : World) (hg : Glob w) : Calls Tryz.prog 93 #[.string ⟨l.toArray⟩] w (ReadR (readW l) w) := by
  cases l with
  | nil => exact read_as (read_no [] rfl rfl rfl w) rfl
  | cons c R =>
    by_cases h1 : c = 107
    · subst h1; exact readall_107 R hl w hg
    by_cases h2 : c = 112
    · subst h2; exact readall_112 R hl w hg
    by_cases hy : c = 121 ∧ R = [111]
    · obtain ⟨rfl, rfl⟩ := hy
      exact read_as (read_yo [121, 111] rfl w) rfl
    have hE : ((c :: R : List UInt8) == [121, 111]) = false := by
      rw [beq_eq_false_iff_ne]
      intro e
      injection e with e1 e2
      exact hy ⟨e1, e2⟩
    by_cases ho : c = 111 ∧ R.head? = some 110
    · obtain ⟨rfl, h3⟩ := ho
      cases R with
      | nil => cases h3
      | cons x t =>
        obtain rfl : x = 110 := by simpa using h3
        have hx := str_extD (111 :: 110 :: t) 2 _ (Nat.le_refl _)
        simp only [List.drop_succ_cons, List.drop_zero] at hx
        refine read_as (read_on (111 :: 110 :: t) t hl hE (by simp [List.isPrefixOf]) (by simp) (by simp; omega) hx w hg) ?_
        simp [readW]
    · have hP : [111, 110].isPrefixOf (c :: R : List UInt8) = false := by
        rw [Bool.eq_false_iff]
        intro e
        cases R with
        | nil => simp [List.isPrefixOf] at e
        | cons x t =>
          simp [List.isPrefixOf] at e
          exact ho ⟨e.1.symm, by simp [e.2]⟩
      have h0 := str_at (c :: R) 0
      simp only [List.getD_cons_zero] at h0
      refine read_as (read_bad (c :: R) c hE hP rfl (by simp) h0 ?_ ?_ w) ?_
      · rw [bne_iff_ne]
        intro e
        apply h1
        apply UInt8.toNat_inj.1
        have : c.toNat = 107 := by omega
        rw [this]; rfl
      · rw [bne_iff_ne]
        intro e
        apply h2
        apply UInt8.toNat_inj.1
        have : c.toNat = 112 := by omega
        rw [this]; rfl
      · unfold readW
        simp only [hy, ho, h1, h2, if_false, or_self, not_false_eq_true, if_true]
        rfl
end Go.Proofs.YtfbfkoeaihknoaaGreatDoor
