/- The contracts of Uses, Makes and Same of stitch, and of the reference of what counts. -/
import Derived.Test.YtpcefmopoceiiaaGreatDoorStitchB
namespace Go.Proofs.YtpcefmopoceiiaaGreatDoor
set_option maxRecDepth 100000
open Go.RowKit
attribute [local go_sem] run_equalIn_st

set_option maxHeartbeats 1000000 in
theorem rsame_any (n m c d : Nat) (A B : Option Addr) (xs ys : List St) (w : World) (hx : Vec shSt w A n xs) (hy : Vec shSt w B m ys) (hn : n ≤ maxLen) :
    Calls Tryz.prog 11 #[.slice A n c, .slice B m d] w fun e w' => e = .returned (.bool (decide (xs = ys))) ∧ Ext w w' := by
  have HX := Lib.hid hx
  have HY := Lib.hid hy
  unfold maxLen at hn
  have hn2 : (n : Int) ≤ 9223372036854775807 := by omega
  clear hx hy hn
  by_cases hnm : n = m
  · subst hnm
    go_enter Tryz.func11, Tryz.ntmps11
    go_wp2_with fail
    go_loopw [5] (fun i wr => ∃ k : Nat, k ≤ n ∧ i = .int .i64 k ∧ Hid (∀ j, j < k → xs.getD j st0 = ys.getD j st0) ∧ Hid (Ext w wr)) (fun i _ => n - (intOf i).toNat)
    case atStart => exact ⟨0, by omega, rfl, fun j hj => absurd hj (by omega), Ext.refl _⟩
    case round =>
      obtain ⟨k, hk, rfl, hall, hext⟩ := hrel
      have := hext.out
      by_cases hlt : k < n
      · obtain ⟨b, off, rfl, hb, hc⟩ := Sts.all (HX.out.ext hext.out) (by omega)
        obtain ⟨b', off', rfl, hb', hc'⟩ := Sts.all (HY.out.ext hext.out) (by omega)
        obtain ⟨h1, h2, h3, h4⟩ := hc k hlt
        obtain ⟨h5, h6, h7, h8⟩ := hc' k hlt
        clear hc hc'
        have q0 : (0 : Int) ≤ (k : Int) := by omega
        have q1 : (k : Int) < (n : Int) := by omega
        by_cases hxy : xs.getD k st0 = ys.getD k st0
        · have HA := Lib.hid (show ∀ j, j < k + 1 → xs.getD j st0 = ys.getD j st0 from fun j hj => by
            by_cases e : j = k
            · subst e; exact hxy
            · exact hall.out j (by omega))
          rw [← hxy] at h5 h6 h7 h8
          clear hall hxy
          generalize xs.getD k st0 = x at *
          obtain ⟨x1, x2, x3, x4⟩ := x
          simp only at h1 h2 h3 h4 h5 h6 h7 h8
          go_wp2_with fail
          go_quiet (fail)
          go_wp2
          go_roundw
          case rel => exact ⟨k + 1, by omega, by go_num, HA, by repeat (first | exact Ext.refl _ | assumption | refine Ext.alloc ?_ _ | refine Ext.drew ?_ | refine Ext.drewN ?_ _ | refine Ext.trans ?_ (by assumption))⟩
          case measure => simp [intOf]; omega
        · have HF := Lib.hid (show decide (xs = ys) = false by
            simp only [decide_eq_false_iff_not]; rintro rfl; exact hxy rfl)
          generalize xs.getD k st0 = x at *
          generalize ys.getD k st0 = y at *
          obtain ⟨x1, x2, x3, x4⟩ := x
          obtain ⟨y1, y2, y3, y4⟩ := y
          simp only at h1 h2 h3 h4 h5 h6 h7 h8
          have hne := run_st_ne hxy
          clear hxy
          go_wp2_with fail
          go_quiet (fail)
          go_wp2
          go_ret
          exact ⟨by rw [HF.out]; rfl, by repeat (first | exact Ext.refl _ | assumption | refine Ext.alloc ?_ _ | refine Ext.drew ?_ | refine Ext.drewN ?_ _ | refine Ext.trans ?_ (by assumption))⟩
      · obtain rfl : k = n := by omega
        have HF := Lib.hid (show decide (xs = ys) = true from decide_eq_true (st_eq HX.out.1 HY.out.1 hall.out))
        go_wp2
        go_ret
        exact ⟨by rw [HF.out]; rfl, hext.out⟩
  · have HF := Lib.hid (show decide (xs = ys) = false by
      simp only [decide_eq_false_iff_not]; rintro rfl; exact hnm (HX.out.1.symm.trans HY.out.1))
    have hne : ((n : Int) != (m : Int)) = true := by simp; omega
    go_enter Tryz.func11, Tryz.ntmps11
    go_wp2_with fail
    go_ret
    exact ⟨by rw [HF.out]; rfl, by repeat (first | exact Ext.refl _ | assumption | refine Ext.alloc ?_ _ | refine Ext.drew ?_ | refine Ext.drewN ?_ _ | refine Ext.trans ?_ (by assumption))⟩
end Go.Proofs.YtpcefmopoceiiaaGreatDoor
