/- slices.Clone of stitches. -/
import Derived.Test.YtjjhoonkooihjaaFaceB
import Derived.Lib.BufferMore
namespace Go.Proofs.Ytjjhoonkooihjaa
open Go.RowKit Go.ChangeShapes Go.WideShapes Go.Joins
set_option maxRecDepth 100000 in
set_option maxHeartbeats 4000000 in
theorem sclone_any (n c : Nat) (A : Option Addr) (l : List St) (w : World) (hl : Vec shSt w A n l) (hn : n ≤ 1000) :
    Calls Try.prog 34 #[.slice A n c] w (StsL l w) := by
  have HX := Lib.hid hl
  have hb0 := Lib.hid (Ext.refl w)
  rcases A with _ | ad
  · obtain rfl : n = 0 := by
      rcases Nat.eq_zero_or_pos n with h | h
      · exact h
      · obtain ⟨b, off, e, _⟩ := hl.2 h
        cases e
    clear hl
    have hnil : ∀ W, (binOp .eql 32 (.slice none 0 c) (.slice none 0 0)).run Try.prog W = .ok (.bool true) W := fun W => Lib.run_eql_slice_nil_nil W 0 c Try.underlying32
    go_enter Try.func34, Try.ntmps34
    go_wp2
    go_ret
    exact ⟨none, 0, 0, rfl, by repeat (first | exact Ext.refl _ | assumption | refine Ext.alloc ?_ _ | refine Ext.drew ?_ | refine Ext.drewN ?_ _ | refine Ext.trans ?_ (by assumption)), HX.out⟩
  · clear hl
    have hnil : ∀ W, (binOp .eql 32 (.slice (some ad) n c) (.slice none 0 0)).run Try.prog W = .ok (.bool false) W := fun W => Lib.run_eql_slice_some_nil W ad n c Try.underlying32
    go_enter Try.func34, Try.ntmps34
    go_wp2_with (at_builtin; go_loud (refine wpList_append_vecsB (S := shSt) (w := w) (xs := l) 32 36 (.agg #[.int .u8 0, .bool false, .int .i64 0, .int .i64 0]) 24 (by rfl) (by rfl) Try.underlying32 info_st (by rfl) (by omega) (by rfl) (by rfl) (OwnV.empty_ shSt (g := w.heap.size) (heap_alloc_new _ _) (Nat.le_refl _)) (by repeat (first | exact Ext.refl _ | assumption | refine Ext.alloc ?_ _ | refine Ext.drew ?_ | refine Ext.drewN ?_ _ | refine Ext.trans ?_ (by assumption))) (HX.out.ext (by repeat (first | exact Ext.refl _ | assumption | refine Ext.alloc ?_ _ | refine Ext.drew ?_ | refine Ext.drewN ?_ _ | refine Ext.trans ?_ (by assumption)))) (by omega) ?_; intro v' w3 hown3 hext3 hgr3))
    rw [Nat.zero_add, List.nil_append] at hown3
    obtain ⟨A3, c3, rfl, hv3, hb3⟩ := own_vecB hown3
    have HV3 := Lib.hid hv3
    clear hv3 hb3 hown3 hgr3
    go_wp2
    go_ret
    exact ⟨_, _, _, rfl, hext3.out, HV3.out⟩
end Go.Proofs.Ytjjhoonkooihjaa
