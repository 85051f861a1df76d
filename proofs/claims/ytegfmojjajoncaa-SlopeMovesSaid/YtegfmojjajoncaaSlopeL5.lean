/- SlopeMoves: a line between numbers that are greater by the same has numbers that are greater by it, and the line from the other end has the same numbers in the opposite order; for any line and number. No condition. -/
import Derived.Test.YtegfmojjajoncaaSlopeG
namespace Go.Proofs.Ytegfmojjajoncaa
open Go.ChangeShapes Go.WideShapes Go.ChangeAt Go.RowKit Go.Joins

set_option maxRecDepth 100000 in
set_option maxHeartbeats 4000000 in
theorem slopeMoves_walk (a b rows m : Int) (w : World) :
    Calls Try.prog 9 #[.int .i64 a, .int .i64 b, .int .i64 rows, .int .i64 m] w fun e w' => e = .returned (.bool true) ∧ Ext w w' := by
  cases h : lnOk a b rows
  · have HOK := Lib.hid h
    go_enter Try.func9, Try.ntmps9
    go_wp2_with (first | (go_at_call 24; ((with_reducible refine (alive_any _).mono ?_); rintro e w0 ⟨rfl, hq0⟩)) | (go_at_call 17; ((with_reducible refine (line_bad HOK.out _).mono ?_); rintro e w1 ⟨A1, c1, rfl, hi1, hq1⟩)))
    go_ret
    exact ⟨rfl, by repeat (first | exact Ext.refl _ | assumption | refine Ext.alloc ?_ _ | refine Ext.drew ?_ | refine Ext.drewN ?_ _ | refine Ext.trans ?_ (by assumption))⟩
  obtain ⟨a0, a1, b0, b1, r0, r1⟩ := lnOk_e h
  obtain ⟨r, rfl⟩ := Int.eq_ofNat_of_zero_le (show 0 ≤ rows by omega)
  have HOK := Lib.hid h
  clear h
  by_cases hm : -1000 ≤ m ∧ m ≤ 1000
  case neg =>
    have hd : m < -1000 ∨ -1000 ≤ m ∧ 1000 < m := by omega
    rcases hd with hd | ⟨hd, hd2⟩
    all_goals
      go_enter Try.func9, Try.ntmps9
      go_wp2_with (first | (go_at_call 24; ((with_reducible refine (alive_any _).mono ?_); rintro e w0 ⟨rfl, hq0⟩)) | (go_at_call 17; ((with_reducible refine (line_ok HOK.out _).mono ?_); rintro e w1 ⟨A1, c1, rfl, hi1, hq1⟩)))
      go_ret
      exact ⟨rfl, by repeat (first | exact Ext.refl _ | assumption | refine Ext.alloc ?_ _ | refine Ext.drew ?_ | refine Ext.drewN ?_ _ | refine Ext.trans ?_ (by assumption))⟩
  obtain ⟨m0, m1⟩ := hm
  have HOK3 := Lib.hid (lnOk_t b0 b1 a0 a1 r0 r1)
  cases h2 : lnOk (a + m) (b + m) r
  · have HBAD := Lib.hid h2
    clear h2
    go_enter Try.func9, Try.ntmps9
    go_wp2_with (first | (go_at_call 24; ((with_reducible refine (alive_any _).mono ?_); rintro e w0 ⟨rfl, hq0⟩)) | (go_at_call 17; ((with_reducible refine (line_ok HOK.out _).mono ?_); rintro e w1 ⟨A1, c1, rfl, hi1, hq1⟩)) | (go_at_call 17; ((with_reducible refine (line_bad HBAD.out _).mono ?_); rintro e w2 ⟨A2, c2, rfl, hi2, hq2⟩)))
    go_wp2_with (go_at_call 17; ((with_reducible refine (line_ok HOK3.out _).mono ?_); rintro e w3 ⟨A3, c3, rfl, hi3, hq3⟩))
    obtain ⟨bb1, off1, rfl, hb1, hc1⟩ := (hi1.ext (hq2.trans hq3)).2 (by omega)
    obtain ⟨bb3, off3, rfl, hb3, hc3⟩ := hi3.2 (by omega)
    have HC1 := Lib.hid hc1
    have HC3 := Lib.hid hc3
    clear hc1 hc3
    go_wp2_with fail
    go_loopw [16] (fun v wr => ∃ k : Nat, k ≤ r + 1 ∧ v = .int .i64 k ∧ Hid (Ext w3 wr)) (fun v _ => r + 1 - (intOf v).toNat)
    case atStart => exact ⟨0, by omega, rfl, Ext.refl _⟩
    case round =>
      obtain ⟨k, hk, rfl, hext⟩ := hrel
      by_cases hlt : k < r + 1
      · have hck1 := (Below.cell (p := ⟨bb1, off1 + k, none⟩) hext.out hb1).trans (HC1.out k hlt)
        have hck3 := (Below.cell (p := ⟨bb3, off3 + (r - k), none⟩) hext.out hb3).trans (HC3.out (r - k) (by omega))
        rw [lnF_get hlt] at hck1
        rw [lnF_get (by omega), at_turn (by omega)] at hck3
        obtain ⟨x0, x1⟩ := at_rng (r := r) (k := k) a0 a1 b0 b1 (by omega) (by omega)
        generalize atV a b r k = X at *
        have i0 : (0 : Int) ≤ (k : Int) := by omega
        have i1 : (k : Int) < (r : Int) + 1 := by omega
        have i2 : (0 : Int) ≤ (r : Int) - (k : Int) := by omega
        have i3 : (r : Int) - (k : Int) < (r : Int) + 1 := by omega
        have f1 := IntWalk.i64_in ((r : Int) - (k : Int)) (by omega)
        have f2 : ((r : Int) - (k : Int)).toNat = r - k := by omega
        have f3 := IntWalk.i64_in (X + m) (by omega)
        go_wp2_with fail
        go_quiet (fail)
        go_wp2_with fail
        go_quiet (fail)
        clear f1 f2 f3
        go_wp2
        go_roundw
        case rel => exact ⟨k + 1, by omega, by go_num, by have := hext.out; repeat (first | exact Ext.refl _ | assumption | refine Ext.alloc ?_ _ | refine Ext.drew ?_ | refine Ext.drewN ?_ _ | refine Ext.trans ?_ (by assumption))⟩
        case measure => simp [intOf]; omega
      · have := hext.out
        go_wp2
        go_ret
        exact ⟨rfl, by repeat (first | exact Ext.refl _ | assumption | refine Ext.alloc ?_ _ | refine Ext.drew ?_ | refine Ext.drewN ?_ _ | refine Ext.trans ?_ (by assumption))⟩
  · have HOK2 := Lib.hid h2
    clear h2
    go_enter Try.func9, Try.ntmps9
    go_wp2_with (first | (go_at_call 24; ((with_reducible refine (alive_any _).mono ?_); rintro e w0 ⟨rfl, hq0⟩)) | (go_at_call 17; ((with_reducible refine (line_ok HOK.out _).mono ?_); rintro e w1 ⟨A1, c1, rfl, hi1, hq1⟩)) | (go_at_call 17; ((with_reducible refine (line_ok HOK2.out _).mono ?_); rintro e w2 ⟨A2, c2, rfl, hi2, hq2⟩)))
    go_wp2_with (go_at_call 17; ((with_reducible refine (line_ok HOK3.out _).mono ?_); rintro e w3 ⟨A3, c3, rfl, hi3, hq3⟩))
    obtain ⟨bb1, off1, rfl, hb1, hc1⟩ := (hi1.ext (hq2.trans hq3)).2 (by omega)
    obtain ⟨bb3, off3, rfl, hb3, hc3⟩ := hi3.2 (by omega)
    obtain ⟨bb2, off2, rfl, hb2, hc2⟩ := (hi2.ext hq3).2 (by omega)
    have HC2 := Lib.hid hc2
    clear hc2
    have HC1 := Lib.hid hc1
    have HC3 := Lib.hid hc3
    clear hc1 hc3
    go_wp2_with fail
    go_loopw [16] (fun v wr => ∃ k : Nat, k ≤ r + 1 ∧ v = .int .i64 k ∧ Hid (Ext w3 wr)) (fun v _ => r + 1 - (intOf v).toNat)
    case atStart => exact ⟨0, by omega, rfl, Ext.refl _⟩
    case round =>
      obtain ⟨k, hk, rfl, hext⟩ := hrel
      by_cases hlt : k < r + 1
      · have hck1 := (Below.cell (p := ⟨bb1, off1 + k, none⟩) hext.out hb1).trans (HC1.out k hlt)
        have hck3 := (Below.cell (p := ⟨bb3, off3 + (r - k), none⟩) hext.out hb3).trans (HC3.out (r - k) (by omega))
        rw [lnF_get hlt] at hck1
        rw [lnF_get (by omega), at_turn (by omega)] at hck3
        have hck2 := (Below.cell (p := ⟨bb2, off2 + k, none⟩) hext.out hb2).trans (HC2.out k hlt)
        rw [lnF_get hlt, at_move (by omega)] at hck2
        obtain ⟨x0, x1⟩ := at_rng (r := r) (k := k) a0 a1 b0 b1 (by omega) (by omega)
        generalize atV a b r k = X at *
        have i0 : (0 : Int) ≤ (k : Int) := by omega
        have i1 : (k : Int) < (r : Int) + 1 := by omega
        have i2 : (0 : Int) ≤ (r : Int) - (k : Int) := by omega
        have i3 : (r : Int) - (k : Int) < (r : Int) + 1 := by omega
        have f1 := IntWalk.i64_in ((r : Int) - (k : Int)) (by omega)
        have f2 : ((r : Int) - (k : Int)).toNat = r - k := by omega
        have f3 := IntWalk.i64_in (X + m) (by omega)
        go_wp2_with fail
        go_quiet (fail)
        go_wp2_with fail
        go_quiet (fail)
        clear f1 f2 f3
        go_wp2
        go_roundw
        case rel => exact ⟨k + 1, by omega, by go_num, by have := hext.out; repeat (first | exact Ext.refl _ | assumption | refine Ext.alloc ?_ _ | refine Ext.drew ?_ | refine Ext.drewN ?_ _ | refine Ext.trans ?_ (by assumption))⟩
        case measure => simp [intOf]; omega
      · have := hext.out
        go_wp2
        go_ret
        exact ⟨rfl, by repeat (first | exact Ext.refl _ | assumption | refine Ext.alloc ?_ _ | refine Ext.drew ?_ | refine Ext.drewN ?_ _ | refine Ext.trans ?_ (by assumption))⟩

set_option maxRecDepth 100000 in
theorem slopeMoves_lifted (os : Os) (started : os.Started) (H : Type) (enc : TypeId × Value → H) :
    ReturnsInHanded {} Try.checked os 9 .any (Rows.slopeMovesSpec.pre6 enc Try.prog Try.f9 Rows.slopeMovesRow.domain false) (Rows.slopeMovesSpec.post enc Try.prog Try.f9 false true false false) := by
  refine returnsInHanded_of_change (C := Try.checked) own started (by kernel_rfl) Try.func9
    (ChangeSpec.witness6 (enc := enc) (C := Try.checked) false ⟨#[], #[.int .i64 0, .int .i64 0, .int .i64 0, .int .i64 0], []⟩ 8 (by kernel_rfl) (by kernel_rfl) (by kernel_rfl) (by kernel_rfl)) ?_
  intro W base args ds gs before hval0 hW hcnd _
  have hval : ∀ (j : Nat) t v, Try.f9.params[j]? = some t → args[j]? = some v → Value.okWide Try.prog W .any base t v := hval0
  have hW' := hW
  obtain ⟨p, q, hA0, hV, rfl, hfz, hnd⟩ := hW
  have hA : DataW.TrodAll enc Try.prog W 0 (fun _ => true) true Try.f9.params.toList args.toList ds p := hA0
  rw [Try.params9] at hA hval
  obtain ⟨v0, vs0, d0, ds0, p0, q0, hargs, rfl, rfl, h0, r0⟩ := trodAll_cons hA
  obtain ⟨v1, vs1, d1, ds1, p1, q1, rfl, rfl, rfl, h1, r1⟩ := trodAll_cons r0
  obtain ⟨v2, vs2, d2, ds2, p2, q2, rfl, rfl, rfl, h2, r2⟩ := trodAll_cons r1
  obtain ⟨v3, vs3, d3, ds3, p3, q3, rfl, rfl, rfl, h3, r3⟩ := trodAll_cons r2
  obtain ⟨rfl, rfl, rfl⟩ := trodAll_nil r3
  obtain rfl : args = #[v0, v1, v2, v3] := by cases args; simp_all
  obtain ⟨rfl, rfl⟩ := trodVars_none hV
  obtain ⟨a, rfl, rfl, -, -⟩ := open_int Try.underlying3 (hval 0 3 v0 rfl rfl) h0
  obtain ⟨b, rfl, rfl, -, -⟩ := open_int Try.underlying3 (hval 1 3 v1 rfl rfl) h1
  obtain ⟨rows, rfl, rfl, -, -⟩ := open_int Try.underlying3 (hval 2 3 v2 rfl rfl) h2
  obtain ⟨m, rfl, rfl, -, -⟩ := open_int Try.underlying3 (hval 3 3 v3 rfl rfl) h3
  refine (slopeMoves_walk a b rows m W).mono fun e W' ⟨he, hg⟩ => ?_
  subst he
  exact ⟨_, rfl, law_post laid_out rfl Try.underlying4 (by kernel_rfl) rfl hW' rfl hg⟩

theorem slopeMoves_holds : Rows.SlopeMovesSaid :=
  OpenClaim.holds_of_wide 9 Try.f9 rfl rfl rfl rfl rfl rfl rfl ⟨rfl, rfl, rfl, rfl, rfl⟩ rfl rfl rfl rfl rfl (by kernel_rfl) Try.func9 (by kernel_rfl)
    (of_decide_eq_true (by kernel_rfl)) (by unfold Func.isWrapper; first | (rw [if_pos (by decide +kernel)]; kernel_rfl) | (rw [if_neg (by decide +kernel)]; exact ⟨rfl, rfl⟩))
    (fun os started H enc _ => slopeMoves_lifted os started H enc)
end Go.Proofs.Ytegfmojjajoncaa
