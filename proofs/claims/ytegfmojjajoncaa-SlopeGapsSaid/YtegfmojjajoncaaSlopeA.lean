/- The contract of list: so many elements that a function value makes. -/
import Derived.Test.YtegfmojjajoncaaRows
import Derived.Test.YtegfmojjajoncaaInts
namespace Go.Proofs.Ytegfmojjajoncaa
open Go.RowKit

theorem info_int : (Try.prog.info? 3).map (fun i => (i.zero, i.size, i.bytes)) = some (some (.int .i64 0), 1, 8) := by kernel_rfl

set_option maxHeartbeats 1000000 in
theorem list_any (n K : Nat) (caps : Array Value) (g : Nat → Int) (I : Nat → World → Prop) (E : Option Nat) (w : World) (hn : n ≤ 2000)
    (hK : ∀ args w, (callFunc K args).run Try.prog w = .ok (.enter K args) w) (hE : ∀ k, E = some k → k < w.heap.size) (hI : I 0 w) (hst : ∀ i w1 w2, I i w1 → Below w.heap.size w1 w2 → I i w2)
    (hcl : ∀ (i : Nat) (w1 : World), i < n → I i w1 → w.heap.size ≤ w1.heap.size → Calls Try.prog K (#[.int .i64 i] ++ caps) w1 fun e w2 => e = .returned (.int .i64 (g i)) ∧ I (i + 1) w2 ∧ But E w1 w2) :
    Calls Try.prog 26 #[.int .i64 n, .func (.func K) #[] caps] w
      fun e w' => ∃ A c, e = .returned (.slice A n c) ∧ Ints w' A n ((List.range n).map g) ∧ I n w' ∧ But E w w' := by
  obtain ⟨i0, hi, hz0, hz1, hz2⟩ := info_parts info_int
  have HE := Lib.hid hE
  have HK := Lib.hid hK
  have HI := Lib.hid hI
  have HS := Lib.hid hst
  have HC := Lib.hid hcl
  clear hE hK hI hst hcl
  go_enter Try.func26, Try.ntmps26
  go_wp2_with (at_make; refine wpList_make_full _ rfl _ _ 22 rfl w.heap.size 3 i0 (.int .i64 0) 1 Try.underlying22 hi hz0 hz1 _ _ _ _ n rfl rfl rfl rfl (by rw [hz2]; omega) (by unfold maxLen; omega) (Nat.le_refl _) ?_; intro w1 hown hgr)
  have hrow := RowV.made (Value.int .i64 0) rfl hown
  have HR := Lib.hid (show RowV w1 w.heap.size n (fun j => .int .i64 (if j < 0 then g j else 0)) from hrow.congr (fun j _ => by simp))
  have HI1 := Lib.hid (HS.out 0 w w1 HI.out (But.below hgr (Nat.le_refl _) (by simp)))
  have HB := Lib.hid (show But E w w1 from But.of_ext (But.ext_none hgr) E)
  clear hrow hown hgr HI
  go_loopw [10] (fun v wr => ∃ k : Nat, k ≤ n ∧ v = .int .i64 k ∧ Hid (RowV wr w.heap.size n (fun j => .int .i64 (if j < k then g j else 0))) ∧ Hid (I k wr) ∧ Hid (But E w wr)) (fun v _ => n - (intOf v).toNat)
  case atStart => exact ⟨0, by omega, rfl, HR, HI1, HB⟩
  case round =>
    obtain ⟨k, hk, rfl, hr1, hr2, hr3⟩ := hrel
    clear HR HI1 HB
    by_cases hlt : k < n
    · go_wp2_with fail
      rw [HK.out, Oper.upon_enter]
      refine (HC.out k wr hlt hr2.out (But.size hr3.out)).mono ?_
      rintro e w2 ⟨rfl, hI2, hb2⟩
      have hne : some w.heap.size ≠ E := fun h => by have := HE.out _ h.symm; omega
      have R2 := RowV.but hr1.out hb2 hne
      have hc2 := R2.at_ hlt
      have hf2 := R2.free hlt
      have hz2 := R2.lt
      have R3 := Lib.hid ((R2.set hlt (.int .i64 (g k))).congr (f' := fun j => .int .i64 (if j < k + 1 then g j else 0)) (fun j hj => by
        by_cases e : j = k
        · subst e; simp
        · simp only [if_neg e]
          by_cases e2 : j < k
          · rw [if_pos e2, if_pos (by omega)]
          · rw [if_neg e2, if_neg (by omega)]))
      have B3 := Lib.hid ((hr3.out.trans hb2).setCell (p := ⟨w.heap.size, k, none⟩) (Nat.le_refl _) (.int .i64 (g k)))
      have I3 := Lib.hid (HS.out (k + 1) w2 (w2.setCell ⟨w.heap.size, k, none⟩ (.int .i64 (g k))) hI2 ((Below.refl w.heap.size w2).setCell (p := ⟨w.heap.size, k, none⟩) (Nat.le_refl _) _))
      clear R2 hI2 hb2 hr1 hr2 hr3
      go_wp2
      go_roundw
      case rel => exact ⟨k + 1, by omega, by go_num, R3, I3, B3⟩
      case measure => simp [intOf]; omega
    · obtain rfl : k = n := by omega
      go_wp2
      go_ret
      refine ⟨_, _, rfl, ?_, hr2.out, hr3.out⟩
      have := Ints.of_row (f := fun j => if j < k then g j else 0) hr1.out
      rwa [show (List.range k).map (fun j => if j < k then g j else 0) = (List.range k).map g from List.map_congr_left (fun j hj => if_pos (List.mem_range.1 hj))] at this
theorem enters (K : Nat) (h : ((Try.prog.funcs[K]?).map fun f => (f.name == "runtime.NumGoroutine", f.body.isNone)) = some (false, false)) : ∀ args w, (callFunc K args).run Try.prog w = .ok (.enter K args) w := by
  intro args w
  obtain ⟨f, hf, h2⟩ := Option.map_eq_some_iff.1 h
  simp only [Prod.mk.injEq] at h2
  simp [callFunc, hf]
  rw [if_neg (by simpa using h2.1), if_neg (by intro e; simp [e] at h2)]
end Go.Proofs.Ytegfmojjajoncaa
