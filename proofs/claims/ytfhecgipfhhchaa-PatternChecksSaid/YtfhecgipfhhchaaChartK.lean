/- The contract of Counts of charts. -/
import Derived.Test.YtfhecgipfhhchaaChartJ
import Derived.Test.YtfhecgipfhhchaaInts
import Derived.Maps.AppendAt
namespace Go.Proofs.Ytfhecgipfhhchaa
set_option maxRecDepth 100000
open Go.RowKit Go.ChangeShapes Go.WideShapes Go.Joins Go.Shelf
attribute [local go_sem] Oper.semAt_some
/-- what Counts returns -/
def CntR (s : Int) (l : List Ro) (w : World) (e : Ending) (w' : World) : Prop := ∃ (A : Option Addr) (n c : Nat), e = .returned (.tuple #[.slice A n c, .int .i64 (chkC s l)]) ∧ Ext w w' ∧ Ints w' A n (if chkC s l = 0 then cntC s l else []) ∧ ∀ b off, A = some ⟨b, off, none⟩ → w.heap.size ≤ b
theorem CntR.mk {s : Int} {l : List Ro} {w : World} {e : Ending} {w' : World} {x : Int} {xs : List Int} (A : Option Addr) (n c : Nat) (hx : chkC s l = x) (hl : (if chkC s l = 0 then cntC s l else []) = xs) (h1 : e = .returned (.tuple #[.slice A n c, .int .i64 x])) (h2 : Ext w w') (h3 : Ints w' A n xs) (h4 : ∀ b off, A = some ⟨b, off, none⟩ → w.heap.size ≤ b) : CntR s l w e w' :=
  ⟨A, n, c, by rw [hx]; exact h1, h2, by rw [hl]; exact h3, h4⟩
/-- the same, and the list has room for its numbers -/
def CntQ (s : Int) (l : List Ro) (w : World) (e : Ending) (w' : World) : Prop := ∃ (A : Option Addr) (n c : Nat), e = .returned (.tuple #[.slice A n c, .int .i64 (chkC s l)]) ∧ Ext w w' ∧ Ints w' A n (if chkC s l = 0 then cntC s l else []) ∧ (∀ b off, A = some ⟨b, off, none⟩ → w.heap.size ≤ b) ∧ n ≤ c
theorem CntQ.mk {s : Int} {l : List Ro} {w : World} {e : Ending} {w' : World} {x : Int} {xs : List Int} (A : Option Addr) (n c : Nat) (hx : chkC s l = x) (hl : (if chkC s l = 0 then cntC s l else []) = xs) (h1 : e = .returned (.tuple #[.slice A n c, .int .i64 x])) (h2 : Ext w w') (h3 : Ints w' A n xs) (h4 : ∀ b off, A = some ⟨b, off, none⟩ → w.heap.size ≤ b) (h5 : n ≤ c) : CntQ s l w e w' :=
  ⟨A, n, c, by rw [hx]; exact h1, h2, by rw [hl]; exact h3, h4, h5⟩
theorem CntQ.r {s : Int} {l : List Ro} {w : World} {e : Ending} {w' : World} (h : CntQ s l w e w') : CntR s l w e w' := by
  obtain ⟨A, n, c, h1, h2, h3, h4, -⟩ := h
  exact ⟨A, n, c, h1, h2, h3, h4⟩
theorem row_cap {w : World} {B k c : Nat} {e : TypeId} {A : Option Addr} {xs : List Value} (h : w.ownsRow B e 1 (.slice A k c) k xs) : k ≤ c := by
  rcases h.2 with ⟨h0, h1⟩ | ⟨g, cap, cur, h0, hB, hg, hnc, r⟩
  · omega
  · cases h0
    exact hnc
theorem info_int : (Try.prog.info? 3).map (fun i => (i.zero, i.size, i.bytes)) = some (some (.int .i64 0), 1, 8) := by kernel_rfl
theorem one_row (w : World) (B : Nat) (e : TypeId) (x : Int) (hB : B ≤ w.heap.size) : (w.alloc (.cells #[.int .i64 x] e)).ownsRow B e 1 (.slice (some ⟨w.heap.size, 0, none⟩) 1 1) 1 [.int .i64 x] :=
  ⟨rfl, .inr ⟨w.heap.size, 1, #[.int .i64 x], rfl, hB, heap_alloc_new w _, Nat.le_refl _, by unfold maxLen; omega, rfl, rfl⟩⟩
/-- what the frame of Counts is in a round -/
def cntF (w : World) (s : Int) (A : Option Addr) (m c g B Bc : Nat) (v7 v18 v19 : Value) : Act :=
  { tmps := #[.agg #[.int .i64 s, .slice A m c], .pointer (some ⟨w.heap.size, 0, none⟩), .slice none 0 0, .int .i64 0, .int .i64 0, .pointer (some ⟨B, 0, none⟩), undef, v7, .agg #[.int .i64 s, .slice A m c], .int .i64 0, .int .i64 0, .bool false, undef,
      .pointer (some ⟨w.heap.size, 0, none⟩), .int .i64 s, .slice (some ⟨g, 0, none⟩) 1 1, .agg #[.int .i64 s, .slice A m c], .func (.func 35) #[] #[.pointer (some ⟨Bc, 0, none⟩)], v18, v19, undef, undef, undef, undef, undef, undef], defers := [] }
def cntI (w : World) (s : Int) (B : Nat) (pre : List Cn) (W : World) : Prop := (∃ v, Boxed W B 67 v ∧ W.ownsRow w.heap.size 3 1 v (pre.length + 1) ((s :: pre.map (·.a)).map (Value.int .i64)) ∧ True) ∧ Below w.heap.size w W
def cntA (w : World) (s : Int) (A : Option Addr) (m c g B Bc : Nat) (x : Cn) (a' : Act) (W : World) : Prop :=
  ∃ Bx, B < Bx ∧ W.cell? ⟨Bx, 1, none⟩ = some (.int .i64 x.a) ∧ a' = cntF w s A m c g B Bc (.pointer (some ⟨Bx, 0, none⟩)) (.int .i64 x.i) (.agg #[.int .i64 x.b, .int .i64 x.a, .int .i64 x.e])
theorem cell3_mid (W : World) (u v x : Value) (T : TypeId) : (W.alloc (.cells #[u, v, x] T)).cell? ⟨W.heap.size, 1, none⟩ = some v := by
  have h : (W.alloc (.cells #[u, v, x] T)).heap[W.heap.size]? = some (.cells #[u, v, x] T) := heap_alloc_new W _
  rw [cell_of_row _ W.heap.size _ _ T (0, 0) h]
  rfl
/-- an append to numbers and the store of the slice keep the blocks of another type -/
theorem KpT.app {n₀ : Nat} {W w1 : World} {v v' : Value} {B k : Nat} {T t e : TypeId} {xs : List Value} {o : Obj} (hT : T ≠ e) (ht : T ≠ t) (hv : Boxed W B t v) (hr : W.ownsRow n₀ e 1 v k xs) (hg : (W.alloc o).grownBy w1 v.ownBlock) (hb : Below n₀ W (w1.setCell ⟨B, 0, none⟩ v')) : KpT n₀ T W (w1.setCell ⟨B, 0, none⟩ v') := by
  refine ⟨hb, fun b hty => ?_⟩
  have hlt := hty.lt
  have h1 : b ≠ B := by
    rintro rfl
    obtain ⟨cs, f, hc⟩ := hty
    have h9 := (show W.heap[_]? = _ from hv).symm.trans hc
    cases h9
    exact ht rfl
  have h2 : some b ≠ v.ownBlock := by
    rcases hr.2 with ⟨rfl, _⟩ | ⟨g, cap, cur, rfl, _, hgb, _⟩
    · simp [Value.ownBlock]
    · intro e'
      obtain rfl : b = g := by simpa [Value.ownBlock] using e'
      obtain ⟨cs, f, hc⟩ := hty
      rw [hgb] at hc
      cases hc
      exact hT rfl
  rw [Below.heap_setCell w1 ⟨B, 0, none⟩ v' b h1]
  exact (hg.block b (by simp; omega) h2).trans (Below.heap_alloc _ _ _ hlt)
set_option maxRecDepth 100000 in
set_option maxHeartbeats 4000000 in
theorem cnt_walk (s : Int) (A : Option Addr) (m c : Nat) (rows : List Ro) (w : World) (hr : Rws w (fun _ => True) A m rows) (h0 : chkC s rows = 0) :
    Calls Try.prog 27 #[.agg #[.int .i64 s, .slice A m c]] w (CntQ s rows w) := by
  have HR := Lib.hid (hr.mono (K' := fun b => b < w.heap.size) (fun b h _ => h))
  have HR0 := Lib.hid hr
  have HL := Lib.hid (show rows.length ≤ 100 from (chkC_ok h0).1)
  have HE := Lib.hid h0
  have HCT := Lib.hid (show (if chkC s rows = 0 then cntC s rows else []) = s :: (visG 0 s rows).map (·.a) by rw [if_pos h0, vis_cnt (chkC_ok h0).2.2.2]; rfl)
  obtain ⟨i0, hi, hz0, hz1, hz2⟩ := info_parts info_int
  have HI := Lib.hid hi
  have HZ0 := Lib.hid hz0
  have HZ1 := Lib.hid hz1
  have HZ2 := Lib.hid hz2
  clear hr h0 hi hz0 hz1 hz2
  refine (callsIn_wide (n := 3)).1 ?_
  refine callsIn_of_wp_marks Try.func27 rfl trivial ?_ rfl
  simp only [Try.ntmps27, List.size_toArray, List.length_cons, List.length_nil, Nat.reduceAdd, Nat.reduceSub, Array.replicate_succ, Array.replicate_zero, List.push_toArray, List.append_toArray, List.nil_append, List.cons_append]
  gi_wp2_with (first
    | (refine ⟨trivial, ?_⟩; gi_at_call 22; refine (callsIn_wide.2 (ccheck_any s A m c rows _ (HR0.out.ext (by repeat (first | exact Ext.refl _ | assumption | refine Ext.alloc ?_ _ | refine Ext.drew ?_ | refine Ext.drewN ?_ _ | refine Ext.trans ?_ (by assumption)))))).mono ?_; rintro e w1 ⟨rfl, hq1⟩; obtain ⟨hf1, hf2, hf3⟩ := hq1.facts; have hlt9 := hf3 w.heap.size (by simp); rw [HE.out])
    | (refine ⟨trivial, ?_⟩; gi_at_call 30; refine (callsIn_wide.2 (counted_any s A m c _)).mono ?_; rintro e w' ⟨rfl, rfl⟩))
  obtain ⟨W0, hW0⟩ : ∃ W0, ((w1.alloc (Obj.cells #[Value.int IntKind.i64 s] 3)).alloc (Obj.cells #[Value.slice (some ⟨w1.heap.size, 0, none⟩) 1 1] 67)).alloc (Obj.cells #[Value.int IntKind.i64 s, Value.slice A m c] 31) = W0 := ⟨_, rfl⟩
  have hsz : W0.heap.size = w1.heap.size + 3 := by rw [← hW0]; simp
  have hq2 : Ext w w1 := by repeat (first | exact Ext.refl _ | assumption | refine Ext.alloc ?_ _ | refine Ext.drew ?_ | refine Ext.drewN ?_ _ | refine Ext.trans ?_ (by assumption))
  have hB0 : Below w.heap.size w W0 := by rw [← hW0]; exact ((Ext.alloc (Ext.alloc (Ext.alloc hq2 _) _) _))
  have hc0 : W0.cell? ⟨w1.heap.size + 1 + 1, 0, none⟩ = some (.int .i64 s) := by rw [← hW0]; simp [go_sem]
  have hc1 : W0.cell? ⟨w1.heap.size + 1 + 1, 1, none⟩ = some (.slice A m c) := by rw [← hW0]; simp [go_sem]
  have bO : Boxed W0 (w1.heap.size + 1) 67 (.slice (some ⟨w1.heap.size, 0, none⟩) 1 1) := by
    rw [← hW0]
    have := (Boxed.new (w1.alloc (Obj.cells #[Value.int IntKind.i64 s] 3)) 67 (.slice (some ⟨w1.heap.size, 0, none⟩) 1 1)).alloc (Obj.cells #[Value.int IntKind.i64 s, Value.slice A m c] 31)
    simpa using this
  have rO : W0.ownsRow w.heap.size 3 1 (.slice (some ⟨w1.heap.size, 0, none⟩) 1 1) 1 [.int .i64 s] := by
    rw [← hW0]
    exact ((one_row w1 w.heap.size 3 s (by omega)).alloc _).alloc _
  clear hf1 hf2 hf3 hq1
  rw [hW0]
  clear hW0
  generalize hg : w1.heap.size = g at *
  clear hg
  have HB0 := Lib.hid hB0
  refine wpIn_rangeFunc_ownH (F := Fence.wide) (n := 3) rfl (by omega) (gf := 35) (lb := #[.pointer (some ⟨g + 1 + 1, 0, none⟩)]) rfl trivial enters_counted
    (counted_stops 2 (g + 1 + 1) w.heap.size s A m c rows (KpT w.heap.size 76) (by omega) (fun _ _ h => h.1) (fun _ _ b h => h.2 b) W0 (by omega) (by omega) hc0 hc1 (HR.out.ext hB0))
    (fun h k => KpT.trans h k) (KpT.put (by omega)) (Below.refl _ _) (fun _ => rfl)
    (cntI w s (g + 1)) (fun _ _ _ => False)
    (OwnFrom.and (Own.from (holdsRow_own w.heap.size (g + 1) 67 3 1 (fun pre : List Cn => pre.length + 1) (fun pre => (s :: pre.map (·.a)).map (Value.int .i64)) (fun _ _ => True)) _) (ownFrom_below (by omega) (by omega)))
    (fun _ _ _ _ _ hs _ _ => hs)
    ⟨⟨_, bO, rO, trivial⟩, hB0⟩
    (cntA w s A m c g (g + 1) (g + 1 + 1))
    (fun x a' => Own.from (fun _ A B row hs hg hr => by obtain ⟨Bx, h1, h2, h3⟩ := hs; exact ⟨Bx, h1, cell_kept h2 hg hr, h3⟩) _) ?assign ?body ?done ?stop
  case assign =>
    rintro l pre x W K ⟨⟨v, hv, hrow, -⟩, hB⟩ hK
    have hlt := hv.lt
    unfold encC
    gi_wp2
    exact hK _ _ ((KeepsOthers.alloc _ _).from _) (KpT.alloc (by omega) _) ⟨⟨v, hv.alloc _, hrow.alloc _, trivial⟩, hB.alloc (by omega) _⟩ ⟨W.heap.size, hlt, cell3_mid _ _ _ _ _, rfl⟩
  case body =>
    rintro l pre x a' W _ _ ⟨⟨v, hv, hrow, -⟩, hB⟩ ⟨Bx, hBx, hcx, rfl⟩ hpl
    have hpl2 := HL.out
    have hc := hv.cell
    have hz := World.block_lt_of_cell? W _ hcx
    simp only at hz
    unfold cntF
    gi_wp2_with (gi_at_builtin; refine wpListIn_append_own _ rfl _ _ 67 rfl w.heap.size 3 i0 (.int .i64 0) 1 8 Try.underlying67 HI.out HZ0.out HZ1.out HZ2.out rfl (by decide) _ _ _ rfl (hrow.alloc _) ⟨W.heap.size, 0, none⟩ 1 1 [.int .i64 x.a] rfl rfl (cell_one_new _ _ _) (by simp [Value.oneCell']) (by unfold maxLen; omega) (by omega) (by have := hB.size; simp; omega) ?_; intro v' w1 hown' hgrow _; obtain ⟨g', cap', rfl⟩ := ownsRow_succ hown'; obtain ⟨hv1, hv2, hr2, hk2, hb2⟩ := hv.appended (by decide) hrow hB.size (by omega) hown' hgrow; have hc1 := hv1.cell; have hf1 := hv1.frozen)
    exact ⟨hk2.from _, KpT.app (by decide) (by decide) hv hrow hgrow hb2, ⟨_, hv2, by simpa using hr2, trivial⟩, hB.trans hb2⟩
  case done =>
    rintro D ys W hD rfl ⟨⟨v, hv, hrow, -⟩, hB⟩ hK
    have hc := hv.cell
    obtain ⟨A9, c9, rfl⟩ : ∃ A9 c9, v = .slice A9 ((visG 0 s rows).length + 1) c9 := by
      obtain ⟨g', cap', h⟩ := ownsRow_succ hrow
      exact ⟨_, _, h⟩
    gi_wp2
    refine ⟨by simp, .inl ⟨_, _, rfl, run_takeDeferred hK, ?_⟩⟩
    refine ⟨.tuple #[.slice A9 ((visG 0 s rows).length + 1) c9, .int .i64 0], by simp [results, Try.f27, go_sem], ?_⟩
    exact CntQ.mk A9 _ c9 HE.out HCT.out rfl (hB.trans (belowK_b (w := w) (Nat.le_refl _) W D _ _ (by omega) hK rfl rfl)) (Ints.of_own (ownsRow_putObj hrow _ hK rfl)) (fun b off e => by subst e; have h5 := (own_blk hrow b (by simp [Value.ownBlock])).1; first | omega | (simp at h5; omega)) (row_cap hrow)
  case stop =>
    rintro D c pre W _ _ h _
    exact h.elim
set_option maxHeartbeats 1000000 in
theorem ccounts_q (s : Int) (A : Option Addr) (m c : Nat) (rows : List Ro) (w : World) (hr : Rws w (fun _ => True) A m rows) :
    Calls Try.prog 27 #[.agg #[.int .i64 s, .slice A m c]] w (CntQ s rows w) := by
  by_cases h0 : chkC s rows = 0
  · exact cnt_walk s A m c rows w hr h0
  · have HR0 := Lib.hid hr
    have HL := Lib.hid (show (if chkC s rows = 0 then cntC s rows else []) = [] by rw [if_neg h0])
    have hb : (chkC s rows != 0) = true := by simpa using h0
    clear hr h0
    generalize hx : chkC s rows = x at *
    have HX := Lib.hid hx
    go_enter Try.func27, Try.ntmps27
    go_wp2_with (go_at_call 22; ((with_reducible refine (ccheck_any s A m c rows _ (HR0.out.ext (by repeat (first | exact Ext.refl _ | assumption | refine Ext.alloc ?_ _ | refine Ext.drew ?_ | refine Ext.drewN ?_ _ | refine Ext.trans ?_ (by assumption))))).mono ?_); rintro e w1 ⟨rfl, hq1⟩; rw [HX.out]))
    go_ret2
    exact CntQ.mk none 0 0 HX.out (by rw [HX.out]; exact HL.out) rfl (by repeat (first | exact Ext.refl _ | assumption | refine Ext.alloc ?_ _ | refine Ext.drew ?_ | refine Ext.drewN ?_ _ | refine Ext.trans ?_ (by assumption))) (Ints.none_ _ _) (fun b off e => by cases e) (Nat.le_refl _)
theorem ccounts_any (s : Int) (A : Option Addr) (m c : Nat) (rows : List Ro) (w : World) (hr : Rws w (fun _ => True) A m rows) :
    Calls Try.prog 27 #[.agg #[.int .i64 s, .slice A m c]] w (CntR s rows w) := (ccounts_q s A m c rows w hr).mono fun _ _ h => h.r
end Go.Proofs.Ytfhecgipfhhchaa
