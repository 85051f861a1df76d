/- The contract of the reference's Twin of rows. -/
import Derived.Test.YtfhecgipfhhchaaChartU
namespace Go.Proofs.Ytfhecgipfhhchaa
set_option maxRecDepth 100000
open Go.RowKit Go.ChangeShapes Go.WideShapes Go.Joins
section
variable {α : Type} {S : Shp α} {P : Program} {ops : Array Oper} {rest : List Oper} {o : Oper} {a : Act} {K : Act → World → Prop} {Q : Exit → Act → World → Prop} {E : Prop} {w wx : World}
theorem step_append_vecsB (T e : TypeId) (z : Value) (bytes : Nat) {s x : Operand} {v : Value} {k m c : Nat} {A : Option Addr} {L xs : List α}
    (hgd : o.guard = none) (ho : o.op = .call { callee := .builtin .append, args := #[s, x], argTypes := #[T, T] })
    (ht : P.underlying T = some (.slice e)) (hinfo : (P.info? e).map (fun i => (i.zero, i.size, i.bytes)) = some (some z, S.size, bytes)) (hzs : z.cells.size = S.size) (hby : bytes ≤ 1000)
    (hs : a.eval s = v) (hx : a.eval x = .slice A m c) (hown : OwnV S wx w.heap.size e v k L) (hext : Ext w wx) (hxs : Vec S wx A m xs) (hk : k + m ≤ 1000000)
    (h : ∀ v' w1, OwnV S w1 w.heap.size e v' (k + m) (L ++ xs) → Hid (Ext w w1) → Hid (wx.grownBy w1 v.ownBlock ∧ (v'.ownBlock = v.ownBlock ∨ v'.ownBlock = some wx.heap.size)) → K (a.put o.dst v') w1) :
    if Region.wanted o (yielded ops a.tmps) = true then Oper.wp P o a wx K Q else E := by
  have hw : Region.wanted o (yielded ops a.tmps) = true := by simp [Region.wanted, hgd]
  rw [if_pos hw]
  exact wp_append_cells (news := xs.flatMap S.cells) T e z S.size bytes ho ht hinfo hzs S.pos hby hs hx hown hext (by rw [flat_len, hxs.1])
    (fun hm => by
      obtain ⟨b, off, hA, _, _⟩ := hxs.2 hm
      subst hA
      exact ⟨_, rfl, hxs.cells_at⟩) (fun u hu => by obtain ⟨y, _, hy⟩ := List.mem_flatMap.1 hu; exact S.one y u hy) hk
    fun v' w' h2 h3 h4 h5 => h v' w' (by unfold OwnV; rw [List.flatMap_append]; exact h2) h3 ⟨h4, h5⟩
end
theorem OwnV.empty_ {α : Type} (S : Shp α) {w : World} {g B : Nat} {e : TypeId} (h : w.heap[g]? = some (.cells #[] e (0, 0))) (hB : B ≤ g) : OwnV S w B e (.slice (some ⟨g, 0, none⟩) 0 0) 0 [] :=
  ⟨by simp, .inr ⟨g, 0, #[], rfl, hB, h, Nat.le_refl _, by simp, by simp, by simp⟩⟩
theorem ros_one {w : World} {K : Nat → Prop} {x : Raw} {r : Ro} (h : RoAt w K x r) : RosAt w K [x] [r] := ⟨rfl, fun k hk => by
  obtain rfl : k = 0 := by simp at hk; omega
  exact h⟩
theorem own_frozen {α : Type} {S : Shp α} {w : World} {B k n c : Nat} {e : TypeId} {A : Option Addr} {l : List α} (h : OwnV S w B e (.slice A n c) k l) : 0 < k → ∀ b off, A = some ⟨b, off, none⟩ → (∀ o, w.frozen? ⟨b, o, none⟩ = false) ∧ b < w.heap.size := by
  intro hk b off e
  subst e
  have hblk := (h.blk b rfl).2
  obtain ⟨_, ⟨h1, h2⟩ | ⟨g, cap, cur, h1, h2, h3, h4⟩⟩ := h
  · omega
  · simp only [Value.slice.injEq, Option.some.injEq, Addr.mk.injEq] at h1
    obtain ⟨⟨rfl, rfl, -⟩, rfl, -⟩ := h1
    refine ⟨fun o => ?_, hblk⟩
    unfold World.frozen?
    simp [h3]
set_option maxRecDepth 100000 in
set_option maxHeartbeats 4000000 in
theorem rtwin_any (A : Option Addr) (n c : Nat) (l : List Ro) (w : World) (hr : Rws w (fun _ => True) A n l) (hn : n ≤ 1000) (hcl : ∀ k, k < n → (l.getD k ro0).cells.length ≤ 1000) :
    Calls Try.prog 16 #[.slice A n c] w (RowsR l w) := by
  have hl := hr.len
  have HR := Lib.hid hr
  have HL := Lib.hid hl
  have HCL := Lib.hid hcl
  clear hl hr hcl
  go_enter Try.func16, Try.ntmps16
  go_wp2_with fail
  go_loopw [3, 4] (fun u i wr => ∃ (V : Value) (k : Nat), V = u ∧ i = .int .i64 k ∧ k ≤ n ∧ Hid (OwnR wr w.heap.size 65 V k (l.take k)) ∧ Hid (Ext w wr)) (fun _ i _ => n - (intOf i).toNat)
  case atStart => exact ⟨_, 0, rfl, rfl, Nat.zero_le _, Lib.hid (by simpa using OwnR.nil w w.heap.size 65), Lib.hid (Ext.refl _)⟩
  case round =>
    obtain ⟨V, k, rfl, rfl, hk, HO, HE⟩ := hrel
    have hx := HE.out
    by_cases hlt : k < n
    · obtain ⟨b, off, A', n', c', rfl, hbw, -, d0, d1, hv, hm', hby, -⟩ := HR.out.at_ hlt
      have hcn := HCL.out k hlt
      rw [hv.1] at hcn
      have q0 : (0 : Int) ≤ (k : Int) := by omega
      have q1 : (k : Int) < (n : Int) := by omega
      have HW := Lib.hid hv
      have HBY := Lib.hid hby
      have HM := Lib.hid hm'
      have HTK := Lib.hid (takeRo (l := l) (k := k) (by rw [HL.out]; exact hlt))
      clear hv hby hm'
      generalize hrow : l.getD k ro0 = row at *
      have HROW := Lib.hid hrow
      clear hrow
      obtain ⟨rb, rc⟩ := row
      simp only at d0
      obtain ⟨wq, rfl⟩ : ∃ wq : World, wq = wr := ⟨_, rfl⟩
      have hz : b < wq.heap.size := Nat.lt_of_lt_of_le hbw (Below.size hx)
      have c0 := (Below.cell (p := ⟨b, off + k * 2, none⟩) hx hbw).trans d0
      have c1 := (Below.cell (p := ⟨b, off + k * 2 + 1, none⟩) hx hbw).trans d1
      have HBL := Lib.hid (show ∀ b, wq.heap.size ≤ b → w.heap.size ≤ b ∧ some b ≠ V.ownBlock from fun b hb => ⟨Nat.le_trans (Below.size hx) hb, fun e => by have := (HO.out.blk b e.symm).2; omega⟩)
      go_wp2_with fail
      go_region_held3 (fun w' => w'.cell? ⟨b, off + k * 2, none⟩ = some (.bool rb) ∧ w'.cell? ⟨b, off + k * 2 + 1, none⟩ = some (.slice A' n' c')) (go_keep)
        (first
          | (refine step_append_vecsB (S := shSt) (w := wq) (xs := rc) 63 80 (.agg #[.int .u8 0, .bool false, .int .i64 0, .int .i64 0]) 24 (by rfl) (by rfl) Try.underlying63 info_st (by rfl) (by omega) (by rfl) (by rfl) (OwnV.empty_ shSt (g := wq.heap.size) (heap_alloc_new _ _) (Nat.le_refl _)) (by repeat (first | exact Ext.refl _ | assumption | refine Ext.alloc ?_ _ | refine Ext.drew ?_ | refine Ext.drewN ?_ _ | refine Ext.trans ?_ (by assumption))) (HW.out.ext (hx.trans (by repeat (first | exact Ext.refl _ | assumption | refine Ext.alloc ?_ _ | refine Ext.drew ?_ | refine Ext.drewN ?_ _ | refine Ext.trans ?_ (by assumption))))) (by omega) ?_; intro v' w3 hown3 hext3 hgr3; rw [Nat.zero_add, List.nil_append] at hown3; obtain ⟨A3, c3, rfl, hv3, hb3⟩ := own_vecB hown3; have hfz3 := own_frozen hown3; obtain ⟨hg1, hg2, hg3⟩ := hext3.out.facts; have HRO := Lib.hid (fun (w'' : World) (h : Ext w3 w'') => ros_one (show RoAt w'' (Kr w'' w.heap.size V) ⟨rb, A3, n', c3⟩ ⟨rb, rc⟩ from ⟨rfl, hv3.ext h, HM.out, HBY.out, fun h9 b9 off9 e9 => ⟨(HBL.out b9 (hb3 h9 b9 off9 e9)).1, (HBL.out b9 (hb3 h9 b9 off9 e9)).2, fun o => (Ext.frozenAt h ⟨b9, o, none⟩ (hfz3 h9 b9 off9 e9).2).trans ((hfz3 h9 b9 off9 e9).1 o)⟩⟩)); clear hv3 hb3 hown3 hgr3 hfz3)
          | (refine step_append_rws (w := w) (t := l.take k) (r := [⟨rb, rc⟩]) (ys := [⟨rb, A3, n', c3⟩]) 29 65 (.agg #[.bool false, .slice none 0 0]) 32 (by rfl) (by rfl) Try.underlying29 info_row (by rfl) (by omega) (by rfl) (by rfl) (HO.out.ext (hext3.out.trans (by repeat (first | exact Ext.refl _ | assumption | refine Ext.alloc ?_ _ | refine Ext.drew ?_ | refine Ext.drewN ?_ _ | refine Ext.trans ?_ (by assumption))))) (hx.trans (hext3.out.trans (by repeat (first | exact Ext.refl _ | assumption | refine Ext.alloc ?_ _ | refine Ext.drew ?_ | refine Ext.drewN ?_ _ | refine Ext.trans ?_ (by assumption))))) (Vec.lit2 (w := w3) (by rfl) (by rfl) (by rfl)) (HRO.out _ (by repeat (first | exact Ext.refl _ | assumption | refine Ext.alloc ?_ _ | refine Ext.drew ?_ | refine Ext.drewN ?_ _ | refine Ext.trans ?_ (by assumption)))) (by omega) ?_; intro v' w5 hown5 hext5; obtain ⟨hh1, hh2, hh3⟩ := hext5.out.facts))
      have HN := Lib.hid (show OwnR w5 w.heap.size 65 v' (k + 1) (l.take (k + 1)) by rw [HTK.out]; exact hown5)
      go_wp2
      go_roundw
      case rel => exact ⟨v', k + 1, rfl, by go_num, by omega, HN, hext5⟩
      case measure => simp [intOf]; omega
    · obtain rfl : k = n := by omega
      have HO2 := HO.out
      rw [List.take_of_length_le (Nat.le_of_eq HL.out)] at HO2
      have HO3 := Lib.hid (show OwnR wr w.heap.size 65 V l.length l by rw [HL.out]; exact HO2)
      go_wp2_with fail
      go_ret
      exact ⟨_, rfl, hx, HO3.out⟩
end Go.Proofs.Ytfhecgipfhhchaa
