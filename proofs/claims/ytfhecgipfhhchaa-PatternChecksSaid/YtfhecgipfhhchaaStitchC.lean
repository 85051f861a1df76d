/- The contracts of Uses, Makes and Same of stitch, and of the reference of what counts. -/
import Derived.Test.YtfhecgipfhhchaaStitchB
namespace Go.Proofs.Ytfhecgipfhhchaa
set_option maxRecDepth 100000
open Go.RowKit
attribute [local go_sem] run_equalIn_st

theorem uses_any (n c : Nat) (A : Option Addr) (l : List St) (w : World) (hl : Vec shSt w A n l) (hn : n ≤ maxLen) (hby : Bytes l) :
    Calls Try.prog 36 #[.slice A n c] w fun e w' => e = .returned (.tuple #[.int .i64 (usG l), .int .i64 (allE l)]) ∧ Ext w w' := by
  have HI := Lib.hid (sall_any n c A l w hl hn hby)
  have HX := Lib.hid hl
  by_cases h : allE l = 0
  · have HV := Lib.hid (show usG l = usL l by rw [usG, if_pos h])
    have HE := Lib.hid h
    obtain ⟨h1, h2, _, _⟩ := allE_e h
    rw [hl.1] at h1
    have HB := Lib.hid h2
    clear h h2 hl hby
    go_enter Try.func36, Try.ntmps36
    go_wp2_with (first | (go_at_call 40; ((with_reducible refine (HI.out).mono ?_); rintro e w1 ⟨rfl, hq1⟩; rw [HE.out])) | (go_at_call 41; ((with_reducible refine (sum_any n c A l _ (Vec.ext HX.out hq1) (by omega) HB.out).mono ?_); rintro e w2 ⟨rfl, hq2⟩)))
    go_ret2
    exact ⟨by rw [HV.out, HE.out]; rfl, by repeat (first | exact Ext.refl _ | assumption | refine Ext.alloc ?_ _ | refine Ext.drew ?_ | refine Ext.drewN ?_ _ | refine Ext.trans ?_ (by assumption))⟩
  · have HV := Lib.hid (show usG l = 0 by rw [usG, if_neg h])
    have hb : (allE l != 0) = true := by simpa using h
    clear h hl hby
    go_enter Try.func36, Try.ntmps36
    go_wp2_with (go_at_call 40; ((with_reducible refine (HI.out).mono ?_); rintro e w1 ⟨rfl, hq1⟩))
    go_ret2
    exact ⟨by rw [HV.out]; rfl, by repeat (first | exact Ext.refl _ | assumption | refine Ext.alloc ?_ _ | refine Ext.drew ?_ | refine Ext.drewN ?_ _ | refine Ext.trans ?_ (by assumption))⟩

theorem makes_any (n c : Nat) (A : Option Addr) (l : List St) (w : World) (hl : Vec shSt w A n l) (hn : n ≤ maxLen) (hby : Bytes l) :
    Calls Try.prog 37 #[.slice A n c] w fun e w' => e = .returned (.tuple #[.int .i64 (mkG l), .int .i64 (allE l)]) ∧ Ext w w' := by
  have HI := Lib.hid (sall_any n c A l w hl hn hby)
  have HX := Lib.hid hl
  by_cases h : allE l = 0
  · have HV := Lib.hid (show mkG l = mkL l by rw [mkG, if_pos h])
    have HE := Lib.hid h
    obtain ⟨h1, h2, _, _⟩ := allE_e h
    rw [hl.1] at h1
    have HB := Lib.hid h2
    clear h h2 hl hby
    go_enter Try.func37, Try.ntmps37
    go_wp2_with (first | (go_at_call 40; ((with_reducible refine (HI.out).mono ?_); rintro e w1 ⟨rfl, hq1⟩; rw [HE.out])) | (go_at_call 41; ((with_reducible refine (sum_any n c A l _ (Vec.ext HX.out hq1) (by omega) HB.out).mono ?_); rintro e w2 ⟨rfl, hq2⟩)))
    go_ret2
    exact ⟨by rw [HV.out, HE.out]; rfl, by repeat (first | exact Ext.refl _ | assumption | refine Ext.alloc ?_ _ | refine Ext.drew ?_ | refine Ext.drewN ?_ _ | refine Ext.trans ?_ (by assumption))⟩
  · have HV := Lib.hid (show mkG l = 0 by rw [mkG, if_neg h])
    have hb : (allE l != 0) = true := by simpa using h
    clear h hl hby
    go_enter Try.func37, Try.ntmps37
    go_wp2_with (go_at_call 40; ((with_reducible refine (HI.out).mono ?_); rintro e w1 ⟨rfl, hq1⟩))
    go_ret2
    exact ⟨by rw [HV.out]; rfl, by repeat (first | exact Ext.refl _ | assumption | refine Ext.alloc ?_ _ | refine Ext.drew ?_ | refine Ext.drewN ?_ _ | refine Ext.trans ?_ (by assumption))⟩

set_option maxHeartbeats 1000000 in
theorem rsame_any (n m c d : Nat) (A B : Option Addr) (xs ys : List St) (w : World) (hx : Vec shSt w A n xs) (hy : Vec shSt w B m ys) (hn : n ≤ maxLen) :
    Calls Try.prog 26 #[.slice A n c, .slice B m d] w fun e w' => e = .returned (.bool (decide (xs = ys))) ∧ Ext w w' := by
  have HX := Lib.hid hx
  have HY := Lib.hid hy
  unfold maxLen at hn
  have hn2 : (n : Int) ≤ 9223372036854775807 := by omega
  clear hx hy hn
  by_cases hnm : n = m
  · subst hnm
    go_enter Try.func26, Try.ntmps26
    go_wp2_with fail
    go_loopw [5] (fun i wr => ∃ k : Nat, k ≤ n ∧ i = .int .i64 k ∧ Hid (∀ j, j < k → xs.getD j st0 = ys.getD j st0) ∧ Hid (Ext w wr)) (fun i _ => n - (intOf i).toNat)
    case atStart => exact ⟨0, by omega, rfl, fun j hj => absurd hj (by omega), Ext.refl _⟩
    case round =>
      obtain ⟨k, hk, rfl, hall, hext⟩ := hrel
      have := hext.out
      by_cases hlt : k < n
      · obtain ⟨b, off, rfl, hb, hc⟩ := Sts.all (HX.out.ext hext.out) (by omega)
        obtain ⟨b', off', rfl, hb', hc'⟩ := Sts.all (HY.out.ext hext.out) (by omega)
        obtain ⟨h1, h2, h3, h4⟩ := hc k hlt
        obtain ⟨h5, h6, h7, h8⟩ := hc' k hlt
        clear hc hc'
        have q0 : (0 : Int) ≤ (k : Int) := by omega
        have q1 : (k : Int) < (n : Int) := by omega
        by_cases hxy : xs.getD k st0 = ys.getD k st0
        · have HA := Lib.hid (show ∀ j, j < k + 1 → xs.getD j st0 = ys.getD j st0 from fun j hj => by
            by_cases e : j = k
            · subst e; exact hxy
            · exact hall.out j (by omega))
          rw [← hxy] at h5 h6 h7 h8
          clear hall hxy
          generalize xs.getD k st0 = x at *
          obtain ⟨x1, x2, x3, x4⟩ := x
          simp only at h1 h2 h3 h4 h5 h6 h7 h8
          go_wp2_with fail
          go_quiet (fail)
          go_wp2
          go_roundw
          case rel => exact ⟨k + 1, by omega, by go_num, HA, by repeat (first | exact Ext.refl _ | assumption | refine Ext.alloc ?_ _ | refine Ext.drew ?_ | refine Ext.drewN ?_ _ | refine Ext.trans ?_ (by assumption))⟩
          case measure => simp [intOf]; omega
        · have HF := Lib.hid (show decide (xs = ys) = false by
            simp only [decide_eq_false_iff_not]; rintro rfl; exact hxy rfl)
          generalize xs.getD k st0 = x at *
          generalize ys.getD k st0 = y at *
          obtain ⟨x1, x2, x3, x4⟩ := x
          obtain ⟨y1, y2, y3, y4⟩ := y
          simp only at h1 h2 h3 h4 h5 h6 h7 h8
          have hne := run_st_ne hxy
          clear hxy
          go_wp2_with fail
          go_quiet (fail)
          go_wp2
          go_ret
          exact ⟨by rw [HF.out]; rfl, by repeat (first | exact Ext.refl _ | assumption | refine Ext.alloc ?_ _ | refine Ext.drew ?_ | refine Ext.drewN ?_ _ | refine Ext.trans ?_ (by assumption))⟩
      · obtain rfl : k = n := by omega
        have HF := Lib.hid (show decide (xs = ys) = true from decide_eq_true (st_eq HX.out.1 HY.out.1 hall.out))
        go_wp2
        go_ret
        exact ⟨by rw [HF.out]; rfl, hext.out⟩
  · have HF := Lib.hid (show decide (xs = ys) = false by
      simp only [decide_eq_false_iff_not]; rintro rfl; exact hnm (HX.out.1.symm.trans HY.out.1))
    have hne : ((n : Int) != (m : Int)) = true := by simp; omega
    go_enter Try.func26, Try.ntmps26
    go_wp2_with fail
    go_ret
    exact ⟨by rw [HF.out]; rfl, by repeat (first | exact Ext.refl _ | assumption | refine Ext.alloc ?_ _ | refine Ext.drew ?_ | refine Ext.drewN ?_ _ | refine Ext.trans ?_ (by assumption))⟩
end Go.Proofs.Ytfhecgipfhhchaa
