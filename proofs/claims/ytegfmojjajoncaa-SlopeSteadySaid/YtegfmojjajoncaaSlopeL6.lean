/- SlopeSteady: the sums of as many steps of a line one after the other differ by at most 1; for any line, number of steps, and two places. No condition. -/
import Derived.Test.YtegfmojjajoncaaSlopeG
namespace Go.Proofs.Ytegfmojjajoncaa
open Go.ChangeShapes Go.WideShapes Go.ChangeAt Go.RowKit Go.Joins

set_option maxRecDepth 100000 in
set_option maxHeartbeats 4000000 in
theorem slopeSteady_walk (a b rows many i k : Int) (w : World) :
    Calls Try.prog 7 #[.int .i64 a, .int .i64 b, .int .i64 rows, .int .i64 many, .int .i64 i, .int .i64 k] w fun e w' => e = .returned (.bool true) ∧ Ext w w' := by
  cases h : lnOk a b rows
  · have HOK := Lib.hid h
    go_enter Try.func7, Try.ntmps7
    go_wp2_with (first | (go_at_call 24; ((with_reducible refine (alive_any _).mono ?_); rintro e w0 ⟨rfl, hq0⟩)) | (go_at_call 17; ((with_reducible refine (line_bad HOK.out _).mono ?_); rintro e w1 ⟨A1, c1, rfl, hi1, hq1⟩)))
    go_ret
    exact ⟨rfl, by repeat (first | exact Ext.refl _ | assumption | refine Ext.alloc ?_ _ | refine Ext.drew ?_ | refine Ext.drewN ?_ _ | refine Ext.trans ?_ (by assumption))⟩
  obtain ⟨a0, a1, b0, b1, r0, r1⟩ := lnOk_e h
  obtain ⟨r, rfl⟩ := Int.eq_ofNat_of_zero_le (show 0 ≤ rows by omega)
  have HOK := Lib.hid h
  clear h
  by_cases hgd : 1 ≤ many ∧ many ≤ (r : Int) ∧ 0 ≤ i ∧ i ≤ (r : Int) - many ∧ 0 ≤ k ∧ k ≤ (r : Int) - many
  case neg =>
    have hd : (many < 1) ∨ (1 ≤ many ∧ (r : Int) < many) ∨ (1 ≤ many ∧ many ≤ (r : Int) ∧ i < 0) ∨ (1 ≤ many ∧ many ≤ (r : Int) ∧ 0 ≤ i ∧ (r : Int) - many < i) ∨ (1 ≤ many ∧ many ≤ (r : Int) ∧ 0 ≤ i ∧ i ≤ (r : Int) - many ∧ k < 0) ∨ (1 ≤ many ∧ many ≤ (r : Int) ∧ 0 ≤ i ∧ i ≤ (r : Int) - many ∧ 0 ≤ k ∧ (r : Int) - many < k) := by omega
    clear hgd
    rcases hd with k1 | ⟨k1, k2⟩ | ⟨k1, k2, k3⟩ | ⟨k1, k2, k3, k4⟩ | ⟨k1, k2, k3, k4, k5⟩ | ⟨k1, k2, k3, k4, k5, k6⟩
    all_goals
      go_enter Try.func7, Try.ntmps7
      go_wp2_with (first | (go_at_call 24; ((with_reducible refine (alive_any _).mono ?_); rintro e w0 ⟨rfl, hq0⟩)) | (go_at_call 17; ((with_reducible refine (line_ok HOK.out _).mono ?_); rintro e w1 ⟨A1, c1, rfl, hi1, hq1⟩)))
      go_ret
      exact ⟨rfl, by repeat (first | exact Ext.refl _ | assumption | refine Ext.alloc ?_ _ | refine Ext.drew ?_ | refine Ext.drewN ?_ _ | refine Ext.trans ?_ (by assumption))⟩
  obtain ⟨g0, g1, g2, g3, g4, g5⟩ := hgd
  obtain ⟨mm, rfl⟩ := Int.eq_ofNat_of_zero_le (show 0 ≤ many by omega)
  obtain ⟨i, rfl⟩ := Int.eq_ofNat_of_zero_le g2
  obtain ⟨k, rfl⟩ := Int.eq_ofNat_of_zero_le g4
  go_enter Try.func7, Try.ntmps7
  go_wp2_with (first | (go_at_call 24; ((with_reducible refine (alive_any _).mono ?_); rintro e w0 ⟨rfl, hq0⟩)) | (go_at_call 17; ((with_reducible refine (line_ok HOK.out _).mono ?_); rintro e w1 ⟨A1, c1, rfl, hi1, hq1⟩)) | (go_at_call 21; ((with_reducible refine (steps_ok HOK.out _ hi1).mono ?_); rintro e w2 ⟨A2, c2, rfl, hi2, hq2⟩)))
  obtain ⟨bb, off, rfl, hb, hc⟩ := hi2.2 (by omega)
  have HC := Lib.hid hc
  clear hc
  go_loopw [18, 19, 20] (fun u v t wr => ∃ n : Nat, n ≤ mm ∧ t = .int .i64 n ∧ u = .int .i64 (atV a b r ((i + n : Nat) : Int) - atV a b r i) ∧ v = .int .i64 (atV a b r ((k + n : Nat) : Int) - atV a b r k) ∧ Hid (Ext w2 wr)) (fun _ _ t _ => mm - (intOf t).toNat)
  case atStart => exact ⟨0, by omega, rfl, by simp, by simp, Ext.refl _⟩
  case round =>
    obtain ⟨n, hn, rfl, rfl, rfl, hext⟩ := hrel
    obtain ⟨p0, p1⟩ := at_rng (r := r) (k := i) a0 a1 b0 b1 (by omega) (by omega)
    obtain ⟨q0, q1⟩ := at_rng (r := r) (k := k) a0 a1 b0 b1 (by omega) (by omega)
    obtain ⟨s0, s1⟩ := at_rng (r := r) (k := i + n) a0 a1 b0 b1 (by omega) (by omega)
    obtain ⟨t0, t1⟩ := at_rng (r := r) (k := k + n) a0 a1 b0 b1 (by omega) (by omega)
    by_cases hlt : n < mm
    · have d1 := (Below.cell (p := ⟨bb, off + (i + n), none⟩) hext.out hb).trans (HC.out (i + n) (by omega))
      have d2 := (Below.cell (p := ⟨bb, off + (k + n), none⟩) hext.out hb).trans (HC.out (k + n) (by omega))
      rw [stF_get (by omega)] at d1 d2
      obtain ⟨u0, u1⟩ := at_rng (r := r) (k := i + n + 1) a0 a1 b0 b1 (by omega) (by omega)
      obtain ⟨v0, v1⟩ := at_rng (r := r) (k := k + n + 1) a0 a1 b0 b1 (by omega) (by omega)
      generalize hX : atV a b r ((i + n + 1 : Nat) : Int) = X at *
      generalize hY : atV a b r ((k + n + 1 : Nat) : Int) = Y at *
      generalize hZ : atV a b r ((i + n : Nat) : Int) = Z at *
      generalize hV : atV a b r ((k + n : Nat) : Int) = V at *
      generalize hS : atV a b r (i : Int) = S at *
      generalize hT : atV a b r (k : Int) = T at *
      have HX := Lib.hid hX
      have HY := Lib.hid hY
      have HS := Lib.hid hS
      have HT := Lib.hid hT
      clear hX hY hZ hV hS hT
      have i0 : (0 : Int) ≤ (i : Int) + (n : Int) := by omega
      have i1 : (i : Int) + (n : Int) < (r : Int) := by omega
      have i2 : (0 : Int) ≤ (k : Int) + (n : Int) := by omega
      have i3 : (k : Int) + (n : Int) < (r : Int) := by omega
      have f1 := IntWalk.i64_in ((i : Int) + (n : Int)) (by omega)
      have f2 := IntWalk.i64_in ((k : Int) + (n : Int)) (by omega)
      have f3 : ((i : Int) + (n : Int)).toNat = i + n := by omega
      have f4 : ((k : Int) + (n : Int)).toNat = k + n := by omega
      have f5 := IntWalk.i64_in (Z - S + (X - Z)) (by omega)
      have f6 := IntWalk.i64_in (V - T + (Y - V)) (by omega)
      go_wp2_with fail
      go_quiet (fail)
      clear f1 f2 f3 f4 f5 f6
      go_wp2
      go_roundw
      case rel => exact ⟨n + 1, by omega, by go_num, congrArg (Value.int .i64) (by have e1 := HX.out; have e2 := HS.out; rw [show i + (n + 1) = i + n + 1 from rfl, e1]; omega), congrArg (Value.int .i64) (by have e1 := HY.out; have e2 := HT.out; rw [show k + (n + 1) = k + n + 1 from rfl, e1]; omega), by have := hext.out; repeat (first | exact Ext.refl _ | assumption | refine Ext.alloc ?_ _ | refine Ext.drew ?_ | refine Ext.drewN ?_ _ | refine Ext.trans ?_ (by assumption))⟩
      case measure => simp [intOf]; omega
    · obtain rfl : n = mm := by omega
      have y1 := at_steady (a := a) (b := b) (r := r) (i := i) (k := k) (m := n) (by omega)
      have y2 := at_steady (a := a) (b := b) (r := r) (i := k) (k := i) (m := n) (by omega)
      generalize atV a b r ((i + n : Nat) : Int) = Z at *
      generalize atV a b r ((k + n : Nat) : Int) = V at *
      generalize atV a b r (i : Int) = S at *
      generalize atV a b r (k : Int) = T at *
      have := hext.out
      go_wp2
      go_ret
      exact ⟨rfl, by repeat (first | exact Ext.refl _ | assumption | refine Ext.alloc ?_ _ | refine Ext.drew ?_ | refine Ext.drewN ?_ _ | refine Ext.trans ?_ (by assumption))⟩

set_option maxRecDepth 100000 in
theorem slopeSteady_lifted (os : Os) (started : os.Started) (H : Type) (enc : TypeId × Value → H) :
    ReturnsInHanded {} Try.checked os 7 .any (Rows.slopeSteadySpec.pre6 enc Try.prog Try.f7 Rows.slopeSteadyRow.domain false) (Rows.slopeSteadySpec.post enc Try.prog Try.f7 false true false false) := by
  refine returnsInHanded_of_change (C := Try.checked) own started (by kernel_rfl) Try.func7
    (ChangeSpec.witness6 (enc := enc) (C := Try.checked) false ⟨#[], #[.int .i64 0, .int .i64 0, .int .i64 0, .int .i64 0, .int .i64 0, .int .i64 0], []⟩ 8 (by kernel_rfl) (by kernel_rfl) (by kernel_rfl) (by kernel_rfl)) ?_
  intro W base args ds gs before hval0 hW hcnd _
  have hval : ∀ (j : Nat) t v, Try.f7.params[j]? = some t → args[j]? = some v → Value.okWide Try.prog W .any base t v := hval0
  have hW' := hW
  obtain ⟨p, q, hA0, hV, rfl, hfz, hnd⟩ := hW
  have hA : DataW.TrodAll enc Try.prog W 0 (fun _ => true) true Try.f7.params.toList args.toList ds p := hA0
  rw [Try.params7] at hA hval
  obtain ⟨v0, vs0, d0, ds0, p0, q0, hargs, rfl, rfl, h0, r0⟩ := trodAll_cons hA
  obtain ⟨v1, vs1, d1, ds1, p1, q1, rfl, rfl, rfl, h1, r1⟩ := trodAll_cons r0
  obtain ⟨v2, vs2, d2, ds2, p2, q2, rfl, rfl, rfl, h2, r2⟩ := trodAll_cons r1
  obtain ⟨v3, vs3, d3, ds3, p3, q3, rfl, rfl, rfl, h3, r3⟩ := trodAll_cons r2
  obtain ⟨v4, vs4, d4, ds4, p4, q4, rfl, rfl, rfl, h4, r4⟩ := trodAll_cons r3
  obtain ⟨v5, vs5, d5, ds5, p5, q5, rfl, rfl, rfl, h5, r5⟩ := trodAll_cons r4
  obtain ⟨rfl, rfl, rfl⟩ := trodAll_nil r5
  obtain rfl : args = #[v0, v1, v2, v3, v4, v5] := by cases args; simp_all
  obtain ⟨rfl, rfl⟩ := trodVars_none hV
  obtain ⟨a, rfl, rfl, -, -⟩ := open_int Try.underlying3 (hval 0 3 v0 rfl rfl) h0
  obtain ⟨b, rfl, rfl, -, -⟩ := open_int Try.underlying3 (hval 1 3 v1 rfl rfl) h1
  obtain ⟨rows, rfl, rfl, -, -⟩ := open_int Try.underlying3 (hval 2 3 v2 rfl rfl) h2
  obtain ⟨many, rfl, rfl, -, -⟩ := open_int Try.underlying3 (hval 3 3 v3 rfl rfl) h3
  obtain ⟨i, rfl, rfl, -, -⟩ := open_int Try.underlying3 (hval 4 3 v4 rfl rfl) h4
  obtain ⟨k, rfl, rfl, -, -⟩ := open_int Try.underlying3 (hval 5 3 v5 rfl rfl) h5
  refine (slopeSteady_walk a b rows many i k W).mono fun e W' ⟨he, hg⟩ => ?_
  subst he
  exact ⟨_, rfl, law_post laid_out rfl Try.underlying4 (by kernel_rfl) rfl hW' rfl hg⟩

theorem slopeSteady_holds : Rows.SlopeSteadySaid :=
  OpenClaim.holds_of_wide 7 Try.f7 rfl rfl rfl rfl rfl rfl rfl ⟨rfl, rfl, rfl, rfl, rfl⟩ rfl rfl rfl rfl rfl (by kernel_rfl) Try.func7 (by kernel_rfl)
    (of_decide_eq_true (by kernel_rfl)) (by unfold Func.isWrapper; first | (rw [if_pos (by decide +kernel)]; kernel_rfl) | (rw [if_neg (by decide +kernel)]; exact ⟨rfl, rfl⟩))
    (fun os started H enc _ => slopeSteady_lifted os started H enc)
end Go.Proofs.Ytegfmojjajoncaa
