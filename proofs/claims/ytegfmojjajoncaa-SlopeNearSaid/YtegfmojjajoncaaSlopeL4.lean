/- SlopeNear: no number of a line is more than a half from where it should be, and it begins and ends there; and no number of an even line is further than the change of a row and a half; for any line. No condition. -/
import Derived.Test.YtegfmojjajoncaaSlopeG
namespace Go.Proofs.Ytegfmojjajoncaa
open Go.ChangeShapes Go.WideShapes Go.ChangeAt Go.RowKit Go.Joins

set_option maxRecDepth 100000 in
set_option maxHeartbeats 4000000 in
theorem slopeNear_walk (a b rows : Int) (w : World) :
    Calls Try.prog 6 #[.int .i64 a, .int .i64 b, .int .i64 rows] w fun e w' => e = .returned (.bool true) ∧ Ext w w' := by
  cases h : lnOk a b rows
  · have HOK := Lib.hid h
    go_enter Try.func6, Try.ntmps6
    go_wp2_with (first | (go_at_call 24; ((with_reducible refine (alive_any _).mono ?_); rintro e w0 ⟨rfl, hq0⟩)) | (go_at_call 17; ((with_reducible refine (line_bad HOK.out _).mono ?_); rintro e w1 ⟨A1, c1, rfl, hi1, hq1⟩)) | (go_at_call 19; ((with_reducible refine (even_bad HOK.out _).mono ?_); rintro e w2 ⟨A2, c2, rfl, hi2, hq2⟩)))
    go_ret
    exact ⟨rfl, by repeat (first | exact Ext.refl _ | assumption | refine Ext.alloc ?_ _ | refine Ext.drew ?_ | refine Ext.drewN ?_ _ | refine Ext.trans ?_ (by assumption))⟩
  obtain ⟨a0, a1, b0, b1, r0, r1⟩ := lnOk_e h
  obtain ⟨r, rfl⟩ := Int.eq_ofNat_of_zero_le (show 0 ≤ rows by omega)
  have HOK := Lib.hid h
  clear h
  rcases Int.lt_trichotomy a b with hab | hab | hab
  · go_enter Try.func6, Try.ntmps6
    go_wp2_with (first | (go_at_call 24; ((with_reducible refine (alive_any _).mono ?_); rintro e w0 ⟨rfl, hq0⟩)) | (go_at_call 17; ((with_reducible refine (line_ok HOK.out _).mono ?_); rintro e w1 ⟨A1, c1, rfl, hi1, hq1⟩)) | (go_at_call 19; ((with_reducible refine (even_ok HOK.out _).mono ?_); rintro e w2 ⟨A2, c2, rfl, hi2, hq2⟩); obtain ⟨bb1, off1, rfl, hb1, hc1⟩ := (hi1.ext hq2).2 (by omega); obtain ⟨bb2, off2, rfl, hb2, hc2⟩ := hi2.2 (by omega); have k1 := hc1 0 (by omega); rw [lnF_get (by omega), at_zero (by omega), Nat.add_zero] at k1; have k2 := hc1 r (by omega); rw [lnF_get (by omega), at_end (by omega)] at k2; have k3 := hc2 0 (by omega); rw [evF_get (by omega), ev_zero (by omega), Nat.add_zero] at k3; have k4 := hc2 r (by omega); rw [evF_get (by omega), ev_end (by omega)] at k4; have HC1 := Lib.hid hc1; have HC2 := Lib.hid hc2; clear hc1 hc2))
    go_loopw [13] (fun v wr => ∃ k : Nat, k ≤ r + 1 ∧ v = .int .i64 k ∧ Hid (Ext w2 wr)) (fun v _ => r + 1 - (intOf v).toNat)
    case atStart => exact ⟨0, by omega, rfl, Ext.refl _⟩
    case round =>
      obtain ⟨k, hk, rfl, hext⟩ := hrel
      by_cases hlt : k < r + 1
      · have hck1 := (Below.cell (p := ⟨bb1, off1 + k, none⟩) hext.out hb1).trans (HC1.out k hlt)
        have hck2 := (Below.cell (p := ⟨bb2, off2 + k, none⟩) hext.out hb2).trans (HC2.out k hlt)
        rw [lnF_get hlt] at hck1
        rw [evF_get hlt] at hck2
        obtain ⟨x0, x1⟩ := at_rng (r := r) (k := k) a0 a1 b0 b1 (by omega) (by omega)
        obtain ⟨y0, y1⟩ := ev_rng (r := r) (k := k) a0 a1 b0 b1 (by omega) (by omega)
        obtain ⟨p0, p1⟩ := at_near (a := a) (b := b) (r := r) (k := k) (by omega)
        obtain ⟨q0, q1⟩ := ev_near (a := a) (b := b) (r := r) (k := k) (by omega) (by omega) (b - a) (by omega) (by omega)
        obtain ⟨m0, m1⟩ := mul_bd (a := b - a) (k := k) (r := r) (by omega) (by omega) (by omega) (by omega)
        generalize atV a b r k = X at *
        generalize evenV a b r k = Y at *
        have i0 : (0 : Int) ≤ (k : Int) := by omega
        have i1 : (k : Int) < (r : Int) + 1 := by omega
        have f1 := IntWalk.i64_in (X - a) (by omega)
        have f2 := IntWalk.i64_in ((r : Int) * (X - a)) (by omega)
        have f3 := IntWalk.i64_in (b - a) (by omega)
        have f4 := IntWalk.i64_in ((b - a) * (k : Int)) (by omega)
        have f5 := IntWalk.i64_in ((r : Int) * (X - a) - (b - a) * (k : Int)) (by omega)
        have f6 := IntWalk.i64_in (Y - a) (by omega)
        have f7 := IntWalk.i64_in ((r : Int) * (Y - a)) (by omega)
        have f8 := IntWalk.i64_in ((r : Int) * (Y - a) - (b - a) * (k : Int)) (by omega)
        go_wp2_with fail
        go_quiet (fail)
        clear f1 f2 f3 f4 f5 f6 f7 f8
        go_wp2
        all_goals
          go_roundw
          case rel => exact ⟨k + 1, by omega, by go_num, by have := hext.out; repeat (first | exact Ext.refl _ | assumption | refine Ext.alloc ?_ _ | refine Ext.drew ?_ | refine Ext.drewN ?_ _ | refine Ext.trans ?_ (by assumption))⟩
          case measure => simp [intOf]; omega
      · have := hext.out
        go_wp2
        go_ret
        exact ⟨rfl, by repeat (first | exact Ext.refl _ | assumption | refine Ext.alloc ?_ _ | refine Ext.drew ?_ | refine Ext.drewN ?_ _ | refine Ext.trans ?_ (by assumption))⟩
  · subst hab
    go_enter Try.func6, Try.ntmps6
    go_wp2_with (first | (go_at_call 24; ((with_reducible refine (alive_any _).mono ?_); rintro e w0 ⟨rfl, hq0⟩)) | (go_at_call 17; ((with_reducible refine (line_ok HOK.out _).mono ?_); rintro e w1 ⟨A1, c1, rfl, hi1, hq1⟩)) | (go_at_call 19; ((with_reducible refine (even_ok HOK.out _).mono ?_); rintro e w2 ⟨A2, c2, rfl, hi2, hq2⟩); obtain ⟨bb1, off1, rfl, hb1, hc1⟩ := (hi1.ext hq2).2 (by omega); obtain ⟨bb2, off2, rfl, hb2, hc2⟩ := hi2.2 (by omega); have k1 := hc1 0 (by omega); rw [lnF_get (by omega), at_zero (by omega), Nat.add_zero] at k1; have k2 := hc1 r (by omega); rw [lnF_get (by omega), at_end (by omega)] at k2; have k3 := hc2 0 (by omega); rw [evF_get (by omega), ev_zero (by omega), Nat.add_zero] at k3; have k4 := hc2 r (by omega); rw [evF_get (by omega), ev_end (by omega)] at k4; have HC1 := Lib.hid hc1; have HC2 := Lib.hid hc2; clear hc1 hc2))
    go_loopw [13] (fun v wr => ∃ k : Nat, k ≤ r + 1 ∧ v = .int .i64 k ∧ Hid (Ext w2 wr)) (fun v _ => r + 1 - (intOf v).toNat)
    case atStart => exact ⟨0, by omega, rfl, Ext.refl _⟩
    case round =>
      obtain ⟨k, hk, rfl, hext⟩ := hrel
      by_cases hlt : k < r + 1
      · have hck1 := (Below.cell (p := ⟨bb1, off1 + k, none⟩) hext.out hb1).trans (HC1.out k hlt)
        have hck2 := (Below.cell (p := ⟨bb2, off2 + k, none⟩) hext.out hb2).trans (HC2.out k hlt)
        rw [lnF_get hlt] at hck1
        rw [evF_get hlt] at hck2
        obtain ⟨x0, x1⟩ := at_rng (a := a) (b := a) (r := r) (k := k) a0 a1 a0 a1 (by omega) (by omega)
        obtain ⟨y0, y1⟩ := ev_rng (r := r) (k := k) a0 a1 a0 a1 (by omega) (by omega)
        obtain ⟨p0, p1⟩ := at_near (a := a) (b := a) (r := r) (k := k) (by omega)
        obtain ⟨q0, q1⟩ := ev_near (a := a) (b := a) (r := r) (k := k) (by omega) (by omega) (0) (by omega) (by omega)
        obtain ⟨m0, m1⟩ := mul_bd (a := a - a) (k := k) (r := r) (by omega) (by omega) (by omega) (by omega)
        generalize atV a a r k = X at *
        generalize evenV a a r k = Y at *
        have i0 : (0 : Int) ≤ (k : Int) := by omega
        have i1 : (k : Int) < (r : Int) + 1 := by omega
        have f1 := IntWalk.i64_in (X - a) (by omega)
        have f2 := IntWalk.i64_in ((r : Int) * (X - a)) (by omega)
        have f3 := IntWalk.i64_in (a - a) (by omega)
        have f4 := IntWalk.i64_in ((a - a) * (k : Int)) (by omega)
        have f5 := IntWalk.i64_in ((r : Int) * (X - a) - (a - a) * (k : Int)) (by omega)
        have f6 := IntWalk.i64_in (Y - a) (by omega)
        have f7 := IntWalk.i64_in ((r : Int) * (Y - a)) (by omega)
        have f8 := IntWalk.i64_in ((r : Int) * (Y - a) - (a - a) * (k : Int)) (by omega)
        go_wp2_with fail
        go_quiet (fail)
        clear f1 f2 f3 f4 f5 f6 f7 f8
        go_wp2
        all_goals
          go_roundw
          case rel => exact ⟨k + 1, by omega, by go_num, by have := hext.out; repeat (first | exact Ext.refl _ | assumption | refine Ext.alloc ?_ _ | refine Ext.drew ?_ | refine Ext.drewN ?_ _ | refine Ext.trans ?_ (by assumption))⟩
          case measure => simp [intOf]; omega
      · have := hext.out
        go_wp2
        go_ret
        exact ⟨rfl, by repeat (first | exact Ext.refl _ | assumption | refine Ext.alloc ?_ _ | refine Ext.drew ?_ | refine Ext.drewN ?_ _ | refine Ext.trans ?_ (by assumption))⟩
  · go_enter Try.func6, Try.ntmps6
    go_wp2_with (first | (go_at_call 24; ((with_reducible refine (alive_any _).mono ?_); rintro e w0 ⟨rfl, hq0⟩)) | (go_at_call 17; ((with_reducible refine (line_ok HOK.out _).mono ?_); rintro e w1 ⟨A1, c1, rfl, hi1, hq1⟩)) | (go_at_call 19; ((with_reducible refine (even_ok HOK.out _).mono ?_); rintro e w2 ⟨A2, c2, rfl, hi2, hq2⟩); obtain ⟨bb1, off1, rfl, hb1, hc1⟩ := (hi1.ext hq2).2 (by omega); obtain ⟨bb2, off2, rfl, hb2, hc2⟩ := hi2.2 (by omega); have k1 := hc1 0 (by omega); rw [lnF_get (by omega), at_zero (by omega), Nat.add_zero] at k1; have k2 := hc1 r (by omega); rw [lnF_get (by omega), at_end (by omega)] at k2; have k3 := hc2 0 (by omega); rw [evF_get (by omega), ev_zero (by omega), Nat.add_zero] at k3; have k4 := hc2 r (by omega); rw [evF_get (by omega), ev_end (by omega)] at k4; have HC1 := Lib.hid hc1; have HC2 := Lib.hid hc2; clear hc1 hc2))
    go_loopw [13] (fun v wr => ∃ k : Nat, k ≤ r + 1 ∧ v = .int .i64 k ∧ Hid (Ext w2 wr)) (fun v _ => r + 1 - (intOf v).toNat)
    case atStart => exact ⟨0, by omega, rfl, Ext.refl _⟩
    case round =>
      obtain ⟨k, hk, rfl, hext⟩ := hrel
      by_cases hlt : k < r + 1
      · have hck1 := (Below.cell (p := ⟨bb1, off1 + k, none⟩) hext.out hb1).trans (HC1.out k hlt)
        have hck2 := (Below.cell (p := ⟨bb2, off2 + k, none⟩) hext.out hb2).trans (HC2.out k hlt)
        rw [lnF_get hlt] at hck1
        rw [evF_get hlt] at hck2
        obtain ⟨x0, x1⟩ := at_rng (r := r) (k := k) a0 a1 b0 b1 (by omega) (by omega)
        obtain ⟨y0, y1⟩ := ev_rng (r := r) (k := k) a0 a1 b0 b1 (by omega) (by omega)
        obtain ⟨p0, p1⟩ := at_near (a := a) (b := b) (r := r) (k := k) (by omega)
        obtain ⟨q0, q1⟩ := ev_near (a := a) (b := b) (r := r) (k := k) (by omega) (by omega) (a - b) (by omega) (by omega)
        obtain ⟨m0, m1⟩ := mul_bd (a := b - a) (k := k) (r := r) (by omega) (by omega) (by omega) (by omega)
        generalize atV a b r k = X at *
        generalize evenV a b r k = Y at *
        have i0 : (0 : Int) ≤ (k : Int) := by omega
        have i1 : (k : Int) < (r : Int) + 1 := by omega
        have f1 := IntWalk.i64_in (X - a) (by omega)
        have f2 := IntWalk.i64_in ((r : Int) * (X - a)) (by omega)
        have f3 := IntWalk.i64_in (b - a) (by omega)
        have f4 := IntWalk.i64_in ((b - a) * (k : Int)) (by omega)
        have f5 := IntWalk.i64_in ((r : Int) * (X - a) - (b - a) * (k : Int)) (by omega)
        have f6 := IntWalk.i64_in (Y - a) (by omega)
        have f7 := IntWalk.i64_in ((r : Int) * (Y - a)) (by omega)
        have f8 := IntWalk.i64_in ((r : Int) * (Y - a) - (b - a) * (k : Int)) (by omega)
        go_wp2_with fail
        go_quiet (fail)
        clear f1 f2 f3 f4 f5 f6 f7 f8
        go_wp2
        all_goals
          go_roundw
          case rel => exact ⟨k + 1, by omega, by go_num, by have := hext.out; repeat (first | exact Ext.refl _ | assumption | refine Ext.alloc ?_ _ | refine Ext.drew ?_ | refine Ext.drewN ?_ _ | refine Ext.trans ?_ (by assumption))⟩
          case measure => simp [intOf]; omega
      · have := hext.out
        go_wp2
        go_ret
        exact ⟨rfl, by repeat (first | exact Ext.refl _ | assumption | refine Ext.alloc ?_ _ | refine Ext.drew ?_ | refine Ext.drewN ?_ _ | refine Ext.trans ?_ (by assumption))⟩

set_option maxRecDepth 100000 in
theorem slopeNear_lifted (os : Os) (started : os.Started) (H : Type) (enc : TypeId × Value → H) :
    ReturnsInHanded {} Try.checked os 6 .any (Rows.slopeNearSpec.pre6 enc Try.prog Try.f6 Rows.slopeNearRow.domain false) (Rows.slopeNearSpec.post enc Try.prog Try.f6 false true false false) := by
  refine returnsInHanded_of_change (C := Try.checked) own started (by kernel_rfl) Try.func6
    (ChangeSpec.witness6 (enc := enc) (C := Try.checked) false ⟨#[], #[.int .i64 0, .int .i64 0, .int .i64 0], []⟩ 8 (by kernel_rfl) (by kernel_rfl) (by kernel_rfl) (by kernel_rfl)) ?_
  intro W base args ds gs before hval0 hW hcnd _
  have hval : ∀ (j : Nat) t v, Try.f6.params[j]? = some t → args[j]? = some v → Value.okWide Try.prog W .any base t v := hval0
  have hW' := hW
  obtain ⟨p, q, hA0, hV, rfl, hfz, hnd⟩ := hW
  have hA : DataW.TrodAll enc Try.prog W 0 (fun _ => true) true Try.f6.params.toList args.toList ds p := hA0
  rw [Try.params6] at hA hval
  obtain ⟨v0, vs0, d0, ds0, p0, q0, hargs, rfl, rfl, h0, r0⟩ := trodAll_cons hA
  obtain ⟨v1, vs1, d1, ds1, p1, q1, rfl, rfl, rfl, h1, r1⟩ := trodAll_cons r0
  obtain ⟨v2, vs2, d2, ds2, p2, q2, rfl, rfl, rfl, h2, r2⟩ := trodAll_cons r1
  obtain ⟨rfl, rfl, rfl⟩ := trodAll_nil r2
  obtain rfl : args = #[v0, v1, v2] := by cases args; simp_all
  obtain ⟨rfl, rfl⟩ := trodVars_none hV
  obtain ⟨a, rfl, rfl, -, -⟩ := open_int Try.underlying3 (hval 0 3 v0 rfl rfl) h0
  obtain ⟨b, rfl, rfl, -, -⟩ := open_int Try.underlying3 (hval 1 3 v1 rfl rfl) h1
  obtain ⟨rows, rfl, rfl, -, -⟩ := open_int Try.underlying3 (hval 2 3 v2 rfl rfl) h2
  refine (slopeNear_walk a b rows W).mono fun e W' ⟨he, hg⟩ => ?_
  subst he
  exact ⟨_, rfl, law_post laid_out rfl Try.underlying4 (by kernel_rfl) rfl hW' rfl hg⟩

theorem slopeNear_holds : Rows.SlopeNearSaid :=
  OpenClaim.holds_of_wide 6 Try.f6 rfl rfl rfl rfl rfl rfl rfl ⟨rfl, rfl, rfl, rfl, rfl⟩ rfl rfl rfl rfl rfl (by kernel_rfl) Try.func6 (by kernel_rfl)
    (of_decide_eq_true (by kernel_rfl)) (by unfold Func.isWrapper; first | (rw [if_pos (by decide +kernel)]; kernel_rfl) | (rw [if_neg (by decide +kernel)]; exact ⟨rfl, rfl⟩))
    (fun os started H enc _ => slopeNear_lifted os started H enc)
end Go.Proofs.Ytegfmojjajoncaa
