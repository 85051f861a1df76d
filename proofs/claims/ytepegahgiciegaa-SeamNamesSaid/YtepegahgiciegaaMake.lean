/- A slice of zeros that a call makes. -/
import Derived.Test.YtepegahgiciegaaInts
import Derived.OwnWalk
namespace Go.Proofs.Ytepegahgiciegaa
open Go.RowKit
section
variable {P : Program} {ops : Array Oper} {rest : List Oper} {o : Oper} {a : Act} {K : Act → World → Prop} {Q : Exit → Act → World → Prop} {E : Prop} {wx : World}
theorem wp_make_ints (T e : TypeId) {l : Operand} (n : Nat) (hop : o.op = .makeSlice T l l) (ht : P.underlying T = some (.slice e)) (hinfo : (P.info? e).map (fun i => (i.zero, i.size, i.bytes)) = some (some (.int .i64 0), 1, 8))
    (hl : a.eval l = .int .i64 (n : Int)) (hn : n ≤ 1000000) (h : ∀ w1, RowV w1 wx.heap.size n (fun _ => .int .i64 0) → Hid (Ext wx w1) → K (a.put o.dst (.slice (some ⟨wx.heap.size, 0, none⟩) n n)) w1) : o.wp P a wx K Q := by
  obtain ⟨i0, hi, hz0, hz1, hz2⟩ := info_parts hinfo
  obtain ⟨w', hrun, r1, r2⟩ := run_make_full (P := P) wx wx.heap.size T e i0 (.int .i64 0) 1 ht hi hz0 hz1 .i64 .i64 n (by rw [hz2]; omega) (by unfold maxLen; omega) (Nat.le_refl _)
  unfold Oper.wp
  simp [execOp, hop, hl, hrun, Result.andThen]
  exact h w' (RowV.made _ rfl r1) (But.ext_none r2)
theorem wpList_make_ints (T e : TypeId) {l : Operand} (n : Nat) (hgd : o.guard = none) (hop : o.op = .makeSlice T l l) (ht : P.underlying T = some (.slice e)) (hinfo : (P.info? e).map (fun i => (i.zero, i.size, i.bytes)) = some (some (.int .i64 0), 1, 8))
    (hl : a.eval l = .int .i64 (n : Int)) (hn : n ≤ 1000000) (h : ∀ w1, RowV w1 wx.heap.size n (fun _ => .int .i64 0) → Hid (Ext wx w1) → wpList P ops Q rest (a.put o.dst (.slice (some ⟨wx.heap.size, 0, none⟩) n n)) w1) : wpList P ops Q (o :: rest) a wx :=
  wpList_plain hgd fun _ hK => wp_make_ints T e n hop ht hinfo hl hn fun w' h1 h2 => hK _ _ (h w' h1 h2)
theorem step_make_ints (T e : TypeId) {l : Operand} (n : Nat) (hgd : o.guard = none) (hop : o.op = .makeSlice T l l) (ht : P.underlying T = some (.slice e)) (hinfo : (P.info? e).map (fun i => (i.zero, i.size, i.bytes)) = some (some (.int .i64 0), 1, 8))
    (hl : a.eval l = .int .i64 (n : Int)) (hn : n ≤ 1000000) (h : ∀ w1, RowV w1 wx.heap.size n (fun _ => .int .i64 0) → Hid (Ext wx w1) → K (a.put o.dst (.slice (some ⟨wx.heap.size, 0, none⟩) n n)) w1) :
    if Region.wanted o (yielded ops a.tmps) = true then Oper.wp P o a wx K Q else E := by
  have hw : Region.wanted o (yielded ops a.tmps) = true := by simp [Region.wanted, hgd]
  rw [if_pos hw]
  exact wp_make_ints T e n hop ht hinfo hl hn h
end
/-- a row after a store into another block -/
theorem RowV.far {w : World} {g n : Nat} {f : Nat → Value} (h : RowV w g n f) {p : Addr} (hne : g ≠ p.block) (u : Value) : RowV (w.setCell p u) g n f :=
  h.but ((But.refl (some p.block) w).own rfl u) (by simpa using hne)
/-- so many zeros -/
def zeroRow (n : Nat) : Array Value := madeCells #[.int .i64 0] (n * 1)
theorem run_zeros {P : Program} (T e : TypeId) (ht : P.underlying T = some (.slice e)) (hinfo : (P.info? e).map (fun i => (i.zero, i.size, i.bytes)) = some (some (.int .i64 0), 1, 8)) (n : Nat) (hn : n ≤ 1000000) (w : World) :
    (Instr.makeSlice T (.int .i64 (n : Int)) (.int .i64 (n : Int))).run P w = .ok (.slice (some ⟨w.heap.size, 0, none⟩) n n) (w.alloc (.cells (zeroRow n) e)) := by
  obtain ⟨i0, hi, hz0, hz1, hz2⟩ := info_parts hinfo
  have hr := run_make (P := P) w T e i0 (.int .i64 0) ht hi hz0 .i64 .i64 n n (by omega) (Int.le_refl _) (by rw [hz2]; omega) (by omega)
  simp only [Int.toNat_natCast, hz1] at hr
  exact hr
theorem RowV.zeros (w : World) (n : Nat) (t : TypeId) : RowV (w.alloc (.cells (zeroRow n) t)) w.heap.size n (fun _ => .int .i64 0) := by
  refine ⟨by simp, fun j hj => ⟨?_, ?_⟩⟩
  · have h : (w.alloc (.cells (zeroRow n) t)).heap[w.heap.size]? = some (.cells (zeroRow n) t) := heap_alloc_new w _
    rw [cell_of_row _ w.heap.size j _ t (0, 0) h]
    simp [zeroRow, madeCells, hj, Nat.mod_one]
  · have h : (w.alloc (.cells (zeroRow n) t)).heap[w.heap.size]? = some (.cells (zeroRow n) t) := heap_alloc_new w _
    simp only [World.frozen?]
    rw [h]
    simp
end Go.Proofs.Ytepegahgiciegaa
