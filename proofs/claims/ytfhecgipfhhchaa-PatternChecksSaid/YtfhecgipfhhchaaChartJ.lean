/- The iterator over rows as it is ranged over; the contract of Check of charts. -/
import Derived.Test.YtfhecgipfhhchaaChartI
import Derived.RangeFuncBox
import Derived.RangeFuncFrom
namespace Go.Proofs.Ytfhecgipfhhchaa
set_option maxRecDepth 100000
open Go.RowKit Go.ChangeShapes Go.WideShapes Go.Joins Go.Shelf
attribute [local go_sem] Oper.semAt_some
theorem counted_any (s : Int) (A : Option Addr) (m c : Nat) (w : World) :
    Calls Try.prog 30 #[.agg #[.int .i64 s, .slice A m c]] w fun e w' => e = .returned (.func (.func 35) #[] #[.pointer (some ⟨w.heap.size, 0, none⟩)]) ∧ w' = w.alloc (.cells #[.int .i64 s, .slice A m c] 31) := by
  go_enter Try.func30, Try.ntmps30
  go_wp2
  go_ret
  exact ⟨rfl, rfl⟩
theorem counted_stops (n Bc n₀ : Nat) (s : Int) (A : Option Addr) (m c : Nat) (rows : List Ro) (Kp : World → World → Prop) (hn : 1 ≤ n)
    (hK1 : ∀ A B, Kp A B → Below n₀ A B) (hK2 : ∀ (A B : World) (b : Nat), Kp A B → Typed 76 A b → B.heap[b]? = A.heap[b]?) (w : World) (hBc : Bc < w.heap.size) (hn₀ : n₀ ≤ w.heap.size)
    (hc0 : w.cell? ⟨Bc, 0, none⟩ = some (.int .i64 s)) (hc1 : w.cell? ⟨Bc, 1, none⟩ = some (.slice A m c)) (hr : Rws w (fun b => b < n₀) A m rows) :
    SeqStopsK Fence.wide n Try.prog 35 #[.pointer (some ⟨Bc, 0, none⟩)] encC Kp (fun ys => ys = visG 0 s rows) (fun pre => pre <+: visG 0 s rows) rows.length w := fun l J Jx W hW hJ _ hY h0 =>
  counted1_in n l Bc n₀ s A m c rows Kp hn hK1 hK2 J Jx W hJ (Nat.le_trans hn₀ hW.size) hY ((hW.cell (p := ⟨Bc, 0, none⟩) hBc).trans hc0) ((hW.cell (p := ⟨Bc, 1, none⟩) hBc).trans hc1) (hr.ext hW) h0
theorem KpT.trans {n₀ : Nat} {T : TypeId} {A B C : World} (h : KpT n₀ T A B) (k : KpT n₀ T B C) : KpT n₀ T A C := by
  refine ⟨h.1.trans k.1, fun b ht => ?_⟩
  have h1 := h.2 b ht
  have ht' : Typed T B b := by obtain ⟨cs, f, hc⟩ := ht; exact ⟨cs, f, by rw [h1]; exact hc⟩
  rw [k.2 b ht', h1]
theorem KpT.put {n₀ : Nat} {T : TypeId} {w : World} (hn : n₀ ≤ w.heap.size) (W : World) (l : Nat) (o o' : Obj) (hl : w.heap.size ≤ l) (h : W.heap[l]? = some o) (hc : o.isCells = false) (hw : o.isWalk = false) : KpT n₀ T W (W.putObj l o') := by
  refine ⟨belowK_b hn W l o o' hl h hc hw, fun b ht => World.putObj_heap_other (fun e => ?_)⟩
  subst e
  obtain ⟨cs, f, ht⟩ := ht
  rw [h] at ht
  cases ht
  simp [Obj.isCells] at hc
theorem KpT.alloc {n₀ : Nat} {T : TypeId} {W : World} (hn : n₀ ≤ W.heap.size) (o : Obj) : KpT n₀ T W (W.alloc o) :=
  ⟨(Below.refl _ _).alloc hn _, fun b ht => by obtain ⟨cs, f, ht⟩ := ht; exact Below.heap_alloc _ _ _ (Array.getElem?_eq_some_iff.1 ht).1⟩
theorem KpT.refl (n₀ : Nat) (T : TypeId) (W : World) : KpT n₀ T W W := ⟨Below.refl _ _, fun _ _ => rfl⟩
theorem cell_more {W : World} {a : Addr} {v : Value} (o : Obj) (h : W.cell? a = some v) : (W.alloc o).cell? a = some v := cell_kept h (World.grownBy_alloc W o none) (fun r e => by cases e)
theorem frozen_more {W : World} {a : Addr} {v : Value} (o : Obj) (h : W.cell? a = some v) (hf : W.frozen? a = false) : (W.alloc o).frozen? a = false := (frozen_kept h (World.grownBy_alloc W o none) (fun r e => by cases e)).trans hf
/-- what the frame of Check is in a round -/
def chkF (w : World) (s : Int) (A : Option Addr) (m c : Nat) (v4 v19 v20 : Value) : Act :=
  { tmps := #[.agg #[.int .i64 s, .slice A m c], .pointer (some ⟨w.heap.size, 0, none⟩), .pointer (some ⟨w.heap.size + 1, 0, none⟩), undef, v4, .pointer (some ⟨w.heap.size, 1, none⟩), .slice A m c, .int .i64 m, .bool false,
      .pointer (some ⟨w.heap.size, 0, none⟩), .int .i64 s, .bool false, .bool false, .pointer (some ⟨w.heap.size, 0, none⟩), .int .i64 s, .bool false, .bool false, .agg #[.int .i64 s, .slice A m c],
      .func (.func 35) #[] #[.pointer (some ⟨w.heap.size + 1 + 1, 0, none⟩)], v19, v20, undef, undef, undef, undef, undef], defers := [] }
theorem enters_counted : ∀ args w, (callFunc 35 args).run Try.prog w = .ok (.enter 35 args) w := enters_of Try.func35 (by kernel_rfl) rfl
theorem Typed.lt {T : TypeId} {w : World} {b : Nat} (h : Typed T w b) : b < w.heap.size := by
  obtain ⟨cs, f, h⟩ := h
  exact (Array.getElem?_eq_some_iff.1 h).1
/-- what Check holds between two rounds -/
def chkI (w : World) (pre : List Cn) (W : World) : Prop := ((∀ y ∈ pre, y.e = 0) ∧ W.cell? ⟨w.heap.size + 1, 0, none⟩ = some (.int .i64 0) ∧ W.frozen? ⟨w.heap.size + 1, 0, none⟩ = false) ∧ Below w.heap.size w W
def chkX (w : World) (c : Code) (pre : List Cn) (W : World) : Prop := (∃ y, c = .ret ∧ y ∈ pre ∧ y.e ≠ 0 ∧ W.cell? ⟨w.heap.size + 1, 0, none⟩ = some (.int .i64 y.e)) ∧ Below w.heap.size w W
def chkA (w : World) (s : Int) (A : Option Addr) (m c : Nat) (x : Cn) (a' : Act) (W : World) : Prop :=
  ∃ Bx, w.heap.size + 1 < Bx ∧ W.cell? ⟨Bx, 2, none⟩ = some (.int .i64 x.e) ∧ a' = chkF w s A m c (.pointer (some ⟨Bx, 0, none⟩)) (.int .i64 x.i) (.agg #[.int .i64 x.b, .int .i64 x.a, .int .i64 x.e])
theorem cell3_new (W : World) (u v x : Value) (T : TypeId) : (W.alloc (.cells #[u, v, x] T)).cell? ⟨W.heap.size, 2, none⟩ = some x := by
  have h : (W.alloc (.cells #[u, v, x] T)).heap[W.heap.size]? = some (.cells #[u, v, x] T) := heap_alloc_new W _
  rw [cell_of_row _ W.heap.size _ _ T (0, 0) h]
  rfl
set_option maxRecDepth 100000 in
set_option maxHeartbeats 4000000 in
theorem chk_walk (s : Int) (A : Option Addr) (m c : Nat) (rows : List Ro) (w : World) (hr : Rws w (fun _ => True) A m rows) (hm : m ≤ 100) (hs0 : 0 ≤ s) (hs1 : s ≤ 200) :
    Calls Try.prog 22 #[.agg #[.int .i64 s, .slice A m c]] w fun e w' => e = .returned (.int .i64 (chkGo s rows)) ∧ Ext w w' := by
  have HR := Lib.hid (hr.mono (K' := fun b => b < w.heap.size) (fun b h _ => h))
  clear hr
  have hs2 : decide (s < 0) = false := by simp; omega
  have hs3 : decide (200 < s) = false := by simp; omega
  have hm3 : decide ((100 : Int) < (m : Int)) = false := by simp; omega
  refine (callsIn_wide (n := 3)).1 ?_
  refine callsIn_of_wp_marks Try.func22 rfl trivial ?_ rfl
  simp only [Try.ntmps22, List.size_toArray, List.length_cons, List.length_nil, Nat.reduceAdd, Nat.reduceSub, Array.replicate_succ, Array.replicate_zero, List.push_toArray, List.append_toArray, List.nil_append, List.cons_append]
  gi_wp2_with (refine ⟨trivial, ?_⟩; gi_at_call 30; refine (callsIn_wide.2 (counted_any s A m c _)).mono ?_; rintro e w' ⟨rfl, rfl⟩)
  clear hs2 hs3 hm3
  obtain ⟨W0, hW0⟩ : ∃ W0, ((w.alloc (Obj.cells #[Value.int IntKind.i64 s, Value.slice A m c] 31)).alloc (Obj.cells #[Value.int IntKind.i64 0] 32)).alloc (Obj.cells #[Value.int IntKind.i64 s, Value.slice A m c] 31) = W0 := ⟨_, rfl⟩
  have hsz : W0.heap.size = w.heap.size + 3 := by rw [← hW0]; simp
  have hB0 : Below w.heap.size w W0 := by rw [← hW0]; exact (((Below.refl _ w).alloc (Nat.le_refl _) _).alloc (by simp) _).alloc (by simp; omega) _
  have hc0 : W0.cell? ⟨w.heap.size + 1 + 1, 0, none⟩ = some (.int .i64 s) := by rw [← hW0]; simp [go_sem]
  have hc1 : W0.cell? ⟨w.heap.size + 1 + 1, 1, none⟩ = some (.slice A m c) := by rw [← hW0]; simp [go_sem]
  have hc2 : W0.cell? ⟨w.heap.size + 1, 0, none⟩ = some (.int .i64 0) := by rw [← hW0]; simp [go_sem]
  have hc3 : W0.frozen? ⟨w.heap.size + 1, 0, none⟩ = false := by rw [← hW0]; simp [go_sem]
  rw [hW0]
  clear hW0
  refine wpIn_rangeFunc_ownH (F := Fence.wide) (n := 3) rfl (by omega) (gf := 35) (lb := #[.pointer (some ⟨w.heap.size + 1 + 1, 0, none⟩)]) rfl trivial enters_counted
    (counted_stops 2 (w.heap.size + 1 + 1) w.heap.size s A m c rows (KpT w.heap.size 76) (by omega) (fun _ _ h => h.1) (fun _ _ b h => h.2 b) W0 (by omega) (by omega) hc0 hc1 (HR.out.ext hB0))
    (fun h k => KpT.trans h k) (KpT.put (by omega)) (Below.refl _ _) (fun _ => rfl)
    (chkI w) (chkX w)
    (OwnFrom.and (Own.from (fun s A B row hs hg hr => ⟨hs.1, cell_kept hs.2.1 hg hr, (frozen_kept hs.2.1 hg hr).trans hs.2.2⟩) _) (ownFrom_below (by omega) (by omega)))
    (fun c => OwnFrom.and (Own.from (fun s A B row hs hg hr => by obtain ⟨y, h1, h2, h3, h4⟩ := hs; exact ⟨y, h1, h2, h3, cell_kept h4 hg hr⟩) _) (ownFrom_below (by omega) (by omega)))
    ⟨⟨by simp, hc2, hc3⟩, hB0⟩
    (chkA w s A m c)
    (fun x a' => Own.from (fun _ A B row hs hg hr => by obtain ⟨Bx, h1, h2, h3⟩ := hs; exact ⟨Bx, h1, cell_kept h2 hg hr, h3⟩) _) ?assign ?body ?done ?stop
  case assign =>
    rintro l pre x W K ⟨⟨hp, hi1, hi2⟩, hB⟩ hK
    have hlt := World.block_lt_of_cell? W _ hi1
    simp only at hlt
    unfold encC
    gi_wp2
    exact hK _ _ ((KeepsOthers.alloc _ _).from _) (KpT.alloc (by omega) _) ⟨⟨hp, cell_more _ hi1, frozen_more _ hi1 hi2⟩, hB.alloc (by omega) _⟩ ⟨W.heap.size, by omega, cell3_new _ _ _ _ _, rfl⟩
  case body =>
    rintro l pre x a' W _ _ ⟨⟨hp, hi1, hi2⟩, hB⟩ ⟨Bx, hBx, hcx, rfl⟩ _
    unfold chkF
    by_cases hxe : x.e = 0
    · have HX := Lib.hid hxe
      rw [hxe] at hcx
      clear hxe
      gi_wp2
      exact ⟨(KeepsOthers.refl _).from _, KpT.refl _ _ _, ⟨fun y hy => (List.mem_append.1 hy).elim (hp y) (fun e => by simp at e; subst e; exact HX.out), hi1, hi2⟩, hB⟩
    · have hb : (x.e != 0) = true := by simpa using hxe
      gi_wp2
      exact ⟨(KeepsOthers.setCell _ _ _).from _, ⟨x, rfl, by simp, hxe, World.cell?_setCell_same' _ _ _ (by rw [hi1]; rfl)⟩, hB.setCell (p := ⟨w.heap.size + 1, 0, none⟩) (by simp) _⟩
  case done =>
    rintro D ys W hD rfl ⟨⟨hp, hi1, hi2⟩, hB⟩ hK
    have HG := Lib.hid (vis_ok hp)
    gi_wp2
    have hK' := (KeepsOthers.setCell W ⟨w.heap.size + 1, 0, none⟩ (.int .i64 0)).same D _ hK rfl
    refine ⟨by simp, .inl ⟨_, _, rfl, run_takeDeferred hK', ?_⟩⟩
    have hc5 := cell_kept (World.cell?_setCell_same' W ⟨w.heap.size + 1, 0, none⟩ (.int .i64 0) (by rw [hi1]; rfl)) (grownBy_putObj' _ D (.deferred none)) (fun r e => by cases e; exact ⟨_, hK', rfl⟩)
    refine ⟨.int .i64 0, ?_, by rw [HG.out], (hB.setCell (p := ⟨w.heap.size + 1, 0, none⟩) (by simp) _).trans (belowK_b (w := w) (Nat.le_refl _) _ D _ _ (by omega) hK' rfl rfl)⟩
    simp [results, Try.f22, go_sem, hc5]
  case stop =>
    rintro D c pre W hD hpre ⟨⟨y, rfl, hy, hye, hi1⟩, hB⟩ hK
    have HG := Lib.hid (vis_bad (hpre.subset hy) hye)
    gi_wp2
    refine ⟨by simp, .inl ⟨_, _, rfl, run_takeDeferred hK, ?_⟩⟩
    have hc5 := cell_kept hi1 (grownBy_putObj' _ D (.deferred none)) (fun r e => by cases e; exact ⟨_, hK, rfl⟩)
    refine ⟨.int .i64 y.e, ?_, by rw [HG.out], hB.trans (belowK_b (w := w) (Nat.le_refl _) W D _ _ (by omega) hK rfl rfl)⟩
    simp [results, Try.f22, go_sem, hc5]
set_option maxRecDepth 100000 in
set_option maxHeartbeats 1000000 in
theorem ccheck_any (s : Int) (A : Option Addr) (m c : Nat) (rows : List Ro) (w : World) (hr : Rws w (fun _ => True) A m rows) :
    Calls Try.prog 22 #[.agg #[.int .i64 s, .slice A m c]] w fun e w' => e = .returned (.int .i64 (chkC s rows)) ∧ Ext w w' := by
  have hl := hr.len
  have hmm := hr.1
  by_cases h1 : 100 < m
  · have HE := Lib.hid (show chkC s rows = 4 by rw [chkC, if_pos (by omega)])
    unfold maxLen at hmm
    clear hr hl
    go_enter Try.func22, Try.ntmps22
    go_wp2_with fail
    exact bodyPost_ret (v := .int .i64 4) (by simp [results, Try.f22, go_sem]) rfl ⟨by rw [HE.out], by repeat (first | exact Ext.refl _ | refine Ext.alloc ?_ _ | refine Below.setCell ?_ (by simp) _)⟩
  by_cases h2 : s < 0
  · have HE := Lib.hid (show chkC s rows = 8 by rw [chkC, if_neg (by omega), if_pos (.inl h2)])
    have hm3 : decide ((100 : Int) < (m : Int)) = false := by simp; omega
    clear hr hl
    go_enter Try.func22, Try.ntmps22
    go_wp2_with fail
    exact bodyPost_ret (v := .int .i64 8) (by simp [results, Try.f22, go_sem]) rfl ⟨by rw [HE.out], by repeat (first | exact Ext.refl _ | refine Ext.alloc ?_ _ | refine Below.setCell ?_ (by simp) _)⟩
  by_cases h3 : 200 < s
  · have HE := Lib.hid (show chkC s rows = 8 by rw [chkC, if_neg (by omega), if_pos (.inr h3)])
    have hm3 : decide ((100 : Int) < (m : Int)) = false := by simp; omega
    have hs2 : decide (s < 0) = false := by simp; omega
    clear hr hl
    go_enter Try.func22, Try.ntmps22
    go_wp2_with fail
    exact bodyPost_ret (v := .int .i64 8) (by simp [results, Try.f22, go_sem]) rfl ⟨by rw [HE.out], by repeat (first | exact Ext.refl _ | refine Ext.alloc ?_ _ | refine Below.setCell ?_ (by simp) _)⟩
  have := chk_walk s A m c rows w hr (by omega) (by omega) (by omega)
  have e : chkC s rows = chkGo s rows := by rw [chkC, if_neg (by omega), if_neg (by omega)]
  rw [e]
  exact this
end Go.Proofs.Ytfhecgipfhhchaa
