/- No pair of the even seam is further apart than a loop of the shorter edge, and exchanging the edges exchanges the numbers of the pairs; for any two edges. -/
import Derived.Test.YtepegahgiciegaaSeamG
import Derived.Deep.QuietTactic
import Derived.BigQuiet
import Derived.Test.YtepegahgiciegaaSeamD
import Derived.Test.YtepegahgiciegaaOpenInts
import Derived.Test.YtepegahgiciegaaOpenGauge
namespace Go.Proofs.Ytepegahgiciegaa
open Go.ChangeShapes Go.WideShapes Go.ChangeAt Go.RowKit Go.Joins
attribute [local go_sem] run_pair_eq
set_option maxRecDepth 100000 in
set_option maxHeartbeats 8000000 in
theorem seamEven_walk (a b : Int) (w : World) : Calls Try.prog 8 #[.int .i64 a, .int .i64 b] w fun e w' => e = .returned (.bool true) ∧ Ext w w' := by
  cases h : edOk a b
  · have h2 : edOk b a = false := by rw [← edOk_swap]; exact h
    go_enter Try.func8, Try.ntmps8
    go_wp2_with (first | (go_at_call 26; ((with_reducible refine (alive_any _).mono ?_); rintro e w1 ⟨rfl, hq1⟩)) | (go_at_call 17; ((with_reducible refine (join_bad h _).mono ?_); rintro e w2 ⟨A2, c2, rfl, hq2⟩)) | (go_at_call 17; ((with_reducible refine (join_bad h2 _).mono ?_); rintro e w3 ⟨A3, c3, rfl, hq3⟩)))
    go_ret
    exact ⟨rfl, by repeat (first | exact Ext.refl _ | assumption | refine Ext.alloc ?_ _ | refine Ext.drew ?_ | refine Ext.drewN ?_ _ | refine Ext.trans ?_ (by assumption))⟩
  obtain ⟨a0, a1, b0, b1⟩ := edOk_e h
  obtain ⟨m, hm⟩ := Int.eq_ofNat_of_zero_le (show 0 ≤ max a b by omega)
  have HM := Lib.hid hm
  have HM2 := Lib.hid (show max b a = m by omega)
  have H := Lib.hid h
  have H2 := Lib.hid (show edOk b a = true by rw [← edOk_swap]; exact h)
  have hmx : ∀ (ts : Array TypeId) (t : TypeId) (w : World), (Builtin.max_ ts t #[.int .i64 a, .int .i64 b]).run Try.prog w = .ok (.int .i64 m) w := fun ts t w => by rw [run_max_i, hm]
  have hm1 : (m : Int) ≤ 1000 := by omega
  clear h hm
  go_enter Try.func8, Try.ntmps8
  go_wp2_with (first | (go_at_call 26; ((with_reducible refine (alive_any _).mono ?_); rintro e w1 ⟨rfl, hq1⟩)) | (go_at_call 17; ((with_reducible refine (join_ok H.out HM.out _).mono ?_); rintro e w2 ⟨A2, c2, rfl, hv2, hq2⟩)) | (go_at_call 17; ((with_reducible refine (join_ok H2.out HM2.out _).mono ?_); rintro e w3 ⟨A3, c3, rfl, hv3, hq3⟩)))
  have HV2 := Lib.hid (show Vec shPair w3 A2 m (joinL a b) from Vec.ext hv2 hq3)
  have HV3 := Lib.hid hv3
  have HE3 := Lib.hid (show Ext w w3 by repeat (first | exact Ext.refl _ | assumption | refine Ext.alloc ?_ _ | refine Ext.drew ?_ | refine Ext.drewN ?_ _ | refine Ext.trans ?_ (by assumption)))
  clear hv2 hv3 hq1 hq2 hq3
  go_loopw [10] (fun i wr => ∃ k : Nat, k ≤ m ∧ i = .int .i64 k ∧ Hid (Ext w3 wr)) (fun i _ => m - (intOf i).toNat)
  case atStart => exact ⟨0, by omega, rfl, Ext.refl _⟩
  case round =>
    obtain ⟨k, hk, rfl, hext⟩ := hrel
    by_cases hlt : k < m
    · obtain ⟨A2, o2, rfl, hb2, d1, d2⟩ := Prs.at_ (Vec.ext HV2.out hext.out) hlt
      obtain ⟨A3, o3, rfl, hb3, d3, d4⟩ := Prs.at_ (Vec.ext HV3.out hext.out) hlt
      have hx3 := hext.out
      rw [join_get H.out (by rw [HM.out]; omega)] at d1 d2
      rw [join_get H2.out (by rw [HM2.out]; omega), join_swap] at d3 d4
      have hf := join_far H.out (k := k) (by rw [HM.out]; omega)
      have hin := secV_in (x := 0) (y := 0) a0 b0 (k := k) (by rw [HM.out]; omega)
      rw [HM.out] at hf
      generalize secV 0 a 0 b k = xy at *
      obtain ⟨x, y⟩ := xy
      simp only at d1 d2 d3 d4 hf hin
      obtain ⟨x0, x1, y0, y1⟩ := hin
      obtain ⟨p0, p1⟩ := prod_bd x0 (show x ≤ 1000 by omega) (show 0 ≤ b by omega) b1
      obtain ⟨q0, q1⟩ := prod_bd y0 (show y ≤ 1000 by omega) (show 0 ≤ a by omega) a1
      obtain ⟨hf1, hf2⟩ := hf
      have q0 : (0 : Int) ≤ (k : Int) := by omega
      have q1 : (k : Int) < (m : Int) := by omega
      have f1 := IntWalk.i64_in (x * b) (by omega)
      have f2 := IntWalk.i64_in (y * a) (by omega)
      have f3 := IntWalk.i64_in (x * b - y * a) (by omega)
      have f4 := IntWalk.i64_in (-(m : Int)) (by omega)
      have D1 := Lib.hid hf1
      have D2 := Lib.hid hf2
      go_wp2_with fail
      go_quiet (fail)
      clear f1 f2 f3
      go_wp2_with fail
      clear p0 p1 hf1 hf2
      generalize x * b - y * a = d at *
      have e1 : decide ((m : Int) ≤ d) = false := by have := D1.out; simp; omega
      have e2 : decide (d ≤ -(m : Int)) = false := by have := D2.out; simp; omega
      have hz1 := World.block_lt_of_cell? wr _ d1
      have hz3 := World.block_lt_of_cell? wr _ d3
      go_region_held3 (fun w' => w'.cell? ⟨A2, o2 + k * 2, none⟩ = some (.int .i64 x) ∧ w'.cell? ⟨A2, o2 + k * 2 + 1, none⟩ = some (.int .i64 y) ∧ w'.cell? ⟨A3, o3 + k * 2, none⟩ = some (.int .i64 y) ∧ w'.cell? ⟨A3, o3 + k * 2 + 1, none⟩ = some (.int .i64 x)) (go_keep) (fail)
      all_goals
        go_wp2
        go_roundw
        case rel => exact ⟨k + 1, by omega, by go_num, by repeat (first | exact Ext.refl _ | assumption | refine Ext.alloc ?_ _ | refine Ext.drew ?_ | refine Ext.drewN ?_ _ | refine Ext.trans ?_ (by assumption))⟩
        case measure => simp [intOf]; omega
    · obtain rfl : k = m := by omega
      have hx3 := hext.out
      have hx4 := HE3.out
      go_wp2
      go_ret
      exact ⟨rfl, by repeat (first | exact Ext.refl _ | assumption | refine Ext.alloc ?_ _ | refine Ext.drew ?_ | refine Ext.drewN ?_ _ | refine Ext.trans ?_ (by assumption))⟩

set_option maxRecDepth 100000 in
theorem seamEven_lifted (os : Os) (started : os.Started) (H : Type) (enc : TypeId × Value → H) :
    ReturnsInHanded {} Try.checked os 8 .any (Rows.seamEvenSpec.pre6 enc Try.prog Try.f8 Rows.seamEvenRow.domain false) (Rows.seamEvenSpec.post enc Try.prog Try.f8 false true false false) := by
  refine returnsInHanded_of_change (C := Try.checked) own started (by kernel_rfl) Try.func8
    (ChangeSpec.witness6 (enc := enc) (C := Try.checked) false ⟨#[], #[.int .i64 0, .int .i64 0], []⟩ 8 (by kernel_rfl) (by kernel_rfl) (by kernel_rfl) (by kernel_rfl)) ?_
  intro W base args ds gs before hval0 hW hcnd _
  have hval : ∀ (j : Nat) t v, Try.f8.params[j]? = some t → args[j]? = some v → Value.okWide Try.prog W .any base t v := hval0
  have hW' := hW
  obtain ⟨p, q, hA0, hV, rfl, hfz, hnd⟩ := hW
  have hA : DataW.TrodAll enc Try.prog W 0 (fun _ => true) true Try.f8.params.toList args.toList ds p := hA0
  rw [Try.params8] at hA hval
  obtain ⟨v0, vs0, d0, ds0, p0, q0, hargs, rfl, rfl, h0, r0⟩ := trodAll_cons hA
  obtain ⟨v1, vs1, d1, ds1, p1, q1, rfl, rfl, rfl, h1, r1⟩ := trodAll_cons r0
  obtain ⟨rfl, rfl, rfl⟩ := trodAll_nil r1
  obtain rfl : args = #[v0, v1] := by cases args; simp_all
  obtain ⟨rfl, rfl⟩ := trodVars_none hV
  obtain ⟨a, rfl, rfl, -, -⟩ := open_int Try.underlying3 (hval 0 3 v0 rfl rfl) h0
  obtain ⟨b, rfl, rfl, -, -⟩ := open_int Try.underlying3 (hval 1 3 v1 rfl rfl) h1
  refine (seamEven_walk a b W).mono fun e W' ⟨he, hg⟩ => ?_
  subst he
  exact ⟨_, rfl, law_post laid_out rfl Try.underlying4 (by kernel_rfl) rfl hW' rfl hg⟩

theorem seamEven_holds : Rows.SeamEvenSaid :=
  OpenClaim.holds_of_wide 8 Try.f8 rfl rfl rfl rfl rfl rfl rfl ⟨rfl, rfl, rfl, rfl, rfl⟩ rfl rfl rfl rfl rfl (by kernel_rfl) Try.func8 (by kernel_rfl)
    (of_decide_eq_true (by kernel_rfl)) (by unfold Func.isWrapper; first | (rw [if_pos (by decide +kernel)]; kernel_rfl) | (rw [if_neg (by decide +kernel)]; exact ⟨rfl, rfl⟩))
    (fun os started H enc _ => seamEven_lifted os started H enc)
end Go.Proofs.Ytepegahgiciegaa
