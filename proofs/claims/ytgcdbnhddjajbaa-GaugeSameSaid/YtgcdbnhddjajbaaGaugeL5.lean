/- GaugeSame: a change to the same gauge, or to one with the same stitch, changes nothing, and the stitches of a width are the same for a sample that is so many times as great, for any gauge and numbers. No condition. -/
import Derived.Test.YtgcdbnhddjajbaaLaw
import Derived.Test.YtgcdbnhddjajbaaGaugeF
import Derived.Test.YtgcdbnhddjajbaaGaugeC
namespace Go.Proofs.Ytgcdbnhddjajbaa
open Go.ChangeShapes Go.WideShapes Go.ChangeAt Go.RowKit Go.Joins

set_option maxRecDepth 100000 in
set_option maxHeartbeats 4000000 in
theorem gaugeSame_walk (ga gb gc gd t width n : Int) (w : World) :
    Calls Try.prog 7 #[.agg #[.int .i64 ga, .int .i64 gb, .int .i64 gc, .int .i64 gd], .int .i64 t, .int .i64 width, .int .i64 n] w fun e w' => e = .returned (.bool true) ∧ Ext w w' := by
  have hb : Ext (w.alloc (.cells #[.int .i64 ga, .int .i64 gb, .int .i64 gc, .int .i64 gd] 23)) (w.alloc (.cells #[.int .i64 ga, .int .i64 gb, .int .i64 gc, .int .i64 gd] 23)) := Ext.refl _
  cases hg : gok ga gb gc gd
  · have he : gerr ga gb gc gd = 8 := by simp [gerr, hg]
    go_enter Try.func7, Try.ntmps7
    go_wp2_with (first | (go_at_call 24; ((with_reducible refine (alive_any _).mono ?_); rintro e w1 ⟨rfl, hq⟩; replace hb := Ext.via hb hq (by repeat (first | exact Ext.refl _ | refine Ext.drew ?_ | refine Ext.drewN ?_ _ | refine Ext.alloc ?_ _)); clear hq; obtain ⟨hc, hf, hz⟩ := hb.facts)) | (go_at_call 19; ((with_reducible refine (rcheck_any _ _ _ _ _).mono ?_); rintro e w1 ⟨rfl, hq⟩; replace hb := Ext.via hb hq (by repeat (first | exact Ext.refl _ | refine Ext.drew ?_ | refine Ext.drewN ?_ _ | refine Ext.alloc ?_ _)); clear hq; obtain ⟨hc, hf, hz⟩ := hb.facts)))
    go_ret
    exact ⟨rfl, by repeat (first | exact Ext.refl _ | refine Ext.alloc ?_ _ | refine Ext.drew ?_ | refine Ext.drewN ?_ _ | refine Ext.trans ?_ (by assumption))⟩
  have he : gerr ga gb gc gd = 0 := by simp [gerr, hg]
  obtain ⟨⟨ga0, ga1⟩, ⟨gb0, gb1⟩, ⟨gc0, gc1⟩, gd0, gd1⟩ := gok_e hg
  by_cases hgd : 1 ≤ t ∧ t ≤ 100 ∧ 0 ≤ n ∧ n ≤ 1000000
  case neg =>
    have hd : (t < 1) ∨ (1 ≤ t ∧ 100 < t) ∨ (1 ≤ t ∧ t ≤ 100 ∧ n < 0) ∨ (1 ≤ t ∧ t ≤ 100 ∧ 0 ≤ n ∧ 1000000 < n) := by omega
    clear hgd
    rcases hd with k1 | ⟨k1, k2⟩ | ⟨k1, k2, k3⟩ | ⟨k1, k2, k3, k4⟩
    all_goals
      go_enter Try.func7, Try.ntmps7
      go_wp2_with (first | (go_at_call 24; ((with_reducible refine (alive_any _).mono ?_); rintro e w1 ⟨rfl, hq⟩; replace hb := Ext.via hb hq (by repeat (first | exact Ext.refl _ | refine Ext.drew ?_ | refine Ext.drewN ?_ _ | refine Ext.alloc ?_ _)); clear hq; obtain ⟨hc, hf, hz⟩ := hb.facts)) | (go_at_call 19; ((with_reducible refine (rcheck_any _ _ _ _ _).mono ?_); rintro e w1 ⟨rfl, hq⟩; replace hb := Ext.via hb hq (by repeat (first | exact Ext.refl _ | refine Ext.drew ?_ | refine Ext.drewN ?_ _ | refine Ext.alloc ?_ _)); clear hq; obtain ⟨hc, hf, hz⟩ := hb.facts)))
      go_ret
      exact ⟨rfl, by repeat (first | exact Ext.refl _ | refine Ext.alloc ?_ _ | refine Ext.drew ?_ | refine Ext.drewN ?_ _ | refine Ext.trans ?_ (by assumption))⟩
  obtain ⟨t0, t1, n0, n1⟩ := hgd
  have p0 : 1 ≤ ga * t := Int.mul_pos (by omega) (by omega)
  have p1 : ga * t ≤ 10000 * 100 := Int.mul_le_mul ga1 t1 (by omega) (by omega)
  have r0 : 1 ≤ gb * t := Int.mul_pos (by omega) (by omega)
  have r1 : gb * t ≤ 10000 * 100 := Int.mul_le_mul gb1 t1 (by omega) (by omega)
  have H1 := Lib.hid (same_ok hg ga0 gb0 n0 n1)
  cases hh : gok (ga * t) (gb * t) gc gd
  · have he' : gerr (ga * t) (gb * t) gc gd = 8 := by simp [gerr, hh]
    go_enter Try.func7, Try.ntmps7
    go_wp2_with (first | (go_at_call 24; ((with_reducible refine (alive_any _).mono ?_); rintro e w1 ⟨rfl, hq⟩; replace hb := Ext.via hb hq (by repeat (first | exact Ext.refl _ | refine Ext.drew ?_ | refine Ext.drewN ?_ _ | refine Ext.alloc ?_ _)); clear hq; obtain ⟨hc, hf, hz⟩ := hb.facts)) | (go_at_call 19; ((with_reducible refine (rcheck_any ga gb gc gd _).mono ?_); rintro e w1 ⟨rfl, hq⟩; replace hb := Ext.via hb hq (by repeat (first | exact Ext.refl _ | refine Ext.drew ?_ | refine Ext.drewN ?_ _ | refine Ext.alloc ?_ _)); clear hq; obtain ⟨hc, hf, hz⟩ := hb.facts)) | (go_at_call 22; ((with_reducible refine (change_c _ H1.out).mono ?_); rintro e w1 ⟨rfl, hq⟩; replace hb := Ext.via hb hq (by repeat (first | exact Ext.refl _ | refine Ext.drew ?_ | refine Ext.drewN ?_ _ | refine Ext.alloc ?_ _)); clear hq; obtain ⟨hc, hf, hz⟩ := hb.facts)))
    have hb2 := Ext.refl (w1.alloc (.cells #[.int .i64 (ga * t), .int .i64 (gb * t), .int .i64 gc, .int .i64 gd] 23))
    go_wp2_with (first | (go_at_call 19; ((with_reducible refine (rcheck_any _ _ _ _ _).mono ?_); rintro e w2 ⟨rfl, hq⟩; replace hb := Ext.via hb hq (by repeat (first | exact Ext.refl _ | refine Ext.drew ?_ | refine Ext.drewN ?_ _ | refine Ext.alloc ?_ _)); replace hb2 := Ext.via hb2 hq (by repeat (first | exact Ext.refl _ | refine Ext.drew ?_ | refine Ext.drewN ?_ _ | refine Ext.alloc ?_ _)); clear hq; obtain ⟨hc, hf, hz⟩ := hb.facts; obtain ⟨hc2, hf2, hz2⟩ := hb2.facts)) | (go_at_call 10; ((with_reducible refine (stitches_c _ HS.out).mono ?_); rintro e w2 ⟨rfl, hq⟩; replace hb := Ext.via hb hq (by repeat (first | exact Ext.refl _ | refine Ext.drew ?_ | refine Ext.drewN ?_ _ | refine Ext.alloc ?_ _)); replace hb2 := Ext.via hb2 hq (by repeat (first | exact Ext.refl _ | refine Ext.drew ?_ | refine Ext.drewN ?_ _ | refine Ext.alloc ?_ _)); clear hq; obtain ⟨hc, hf, hz⟩ := hb.facts; obtain ⟨hc2, hf2, hz2⟩ := hb2.facts)) | (go_at_call 14; ((with_reducible refine (width_c _ HW.out).mono ?_); rintro e w2 ⟨rfl, hq⟩; replace hb := Ext.via hb hq (by repeat (first | exact Ext.refl _ | refine Ext.drew ?_ | refine Ext.drewN ?_ _ | refine Ext.alloc ?_ _)); replace hb2 := Ext.via hb2 hq (by repeat (first | exact Ext.refl _ | refine Ext.drew ?_ | refine Ext.drewN ?_ _ | refine Ext.alloc ?_ _)); clear hq; obtain ⟨hc, hf, hz⟩ := hb.facts; obtain ⟨hc2, hf2, hz2⟩ := hb2.facts)) | (go_at_call 22; ((with_reducible refine (change_c _ H2.out).mono ?_); rintro e w2 ⟨rfl, hq⟩; replace hb := Ext.via hb hq (by repeat (first | exact Ext.refl _ | refine Ext.drew ?_ | refine Ext.drewN ?_ _ | refine Ext.alloc ?_ _)); replace hb2 := Ext.via hb2 hq (by repeat (first | exact Ext.refl _ | refine Ext.drew ?_ | refine Ext.drewN ?_ _ | refine Ext.alloc ?_ _)); clear hq; obtain ⟨hc, hf, hz⟩ := hb.facts; obtain ⟨hc2, hf2, hz2⟩ := hb2.facts)) | (go_at_call 10; ((with_reducible refine (stitches_any _ _ _ _ _ _).mono ?_); rintro e w2 ⟨rfl, hq⟩; replace hb := Ext.via hb hq (by repeat (first | exact Ext.refl _ | refine Ext.drew ?_ | refine Ext.drewN ?_ _ | refine Ext.alloc ?_ _)); replace hb2 := Ext.via hb2 hq (by repeat (first | exact Ext.refl _ | refine Ext.drew ?_ | refine Ext.drewN ?_ _ | refine Ext.alloc ?_ _)); clear hq; obtain ⟨hc, hf, hz⟩ := hb.facts; obtain ⟨hc2, hf2, hz2⟩ := hb2.facts)) | (go_at_call 14; ((with_reducible refine (width_any _ _ _ _ _ _).mono ?_); rintro e w2 ⟨rfl, hq⟩; replace hb := Ext.via hb hq (by repeat (first | exact Ext.refl _ | refine Ext.drew ?_ | refine Ext.drewN ?_ _ | refine Ext.alloc ?_ _)); replace hb2 := Ext.via hb2 hq (by repeat (first | exact Ext.refl _ | refine Ext.drew ?_ | refine Ext.drewN ?_ _ | refine Ext.alloc ?_ _)); clear hq; obtain ⟨hc, hf, hz⟩ := hb.facts; obtain ⟨hc2, hf2, hz2⟩ := hb2.facts)))
    go_ret
    clear hb2
    exact ⟨rfl, by repeat (first | exact Ext.refl _ | refine Ext.alloc ?_ _ | refine Ext.drew ?_ | refine Ext.drewN ?_ _ | refine Ext.trans ?_ (by assumption))⟩
  have he' : gerr (ga * t) (gb * t) gc gd = 0 := by simp [gerr, hh]
  have H2 := Lib.hid (same_ok2 hg hh ga0 gb0 t0 n0 n1)
  have HS := Lib.hid (same_st (a := ga) hg hh width gb0 t0)
  have HW := Lib.hid (same_wd (b := gb) hg hh n ga0 t0)
  go_enter Try.func7, Try.ntmps7
  go_wp2_with (first | (go_at_call 24; ((with_reducible refine (alive_any _).mono ?_); rintro e w1 ⟨rfl, hq⟩; replace hb := Ext.via hb hq (by repeat (first | exact Ext.refl _ | refine Ext.drew ?_ | refine Ext.drewN ?_ _ | refine Ext.alloc ?_ _)); clear hq; obtain ⟨hc, hf, hz⟩ := hb.facts)) | (go_at_call 19; ((with_reducible refine (rcheck_any ga gb gc gd _).mono ?_); rintro e w1 ⟨rfl, hq⟩; replace hb := Ext.via hb hq (by repeat (first | exact Ext.refl _ | refine Ext.drew ?_ | refine Ext.drewN ?_ _ | refine Ext.alloc ?_ _)); clear hq; obtain ⟨hc, hf, hz⟩ := hb.facts)) | (go_at_call 22; ((with_reducible refine (change_c _ H1.out).mono ?_); rintro e w1 ⟨rfl, hq⟩; replace hb := Ext.via hb hq (by repeat (first | exact Ext.refl _ | refine Ext.drew ?_ | refine Ext.drewN ?_ _ | refine Ext.alloc ?_ _)); clear hq; obtain ⟨hc, hf, hz⟩ := hb.facts)))
  have hb2 := Ext.refl (w1.alloc (.cells #[.int .i64 (ga * t), .int .i64 (gb * t), .int .i64 gc, .int .i64 gd] 23))
  go_wp2_with (first | (go_at_call 19; ((with_reducible refine (rcheck_any _ _ _ _ _).mono ?_); rintro e w2 ⟨rfl, hq⟩; replace hb := Ext.via hb hq (by repeat (first | exact Ext.refl _ | refine Ext.drew ?_ | refine Ext.drewN ?_ _ | refine Ext.alloc ?_ _)); replace hb2 := Ext.via hb2 hq (by repeat (first | exact Ext.refl _ | refine Ext.drew ?_ | refine Ext.drewN ?_ _ | refine Ext.alloc ?_ _)); clear hq; obtain ⟨hc, hf, hz⟩ := hb.facts; obtain ⟨hc2, hf2, hz2⟩ := hb2.facts)) | (go_at_call 10; ((with_reducible refine (stitches_c _ HS.out).mono ?_); rintro e w2 ⟨rfl, hq⟩; replace hb := Ext.via hb hq (by repeat (first | exact Ext.refl _ | refine Ext.drew ?_ | refine Ext.drewN ?_ _ | refine Ext.alloc ?_ _)); replace hb2 := Ext.via hb2 hq (by repeat (first | exact Ext.refl _ | refine Ext.drew ?_ | refine Ext.drewN ?_ _ | refine Ext.alloc ?_ _)); clear hq; obtain ⟨hc, hf, hz⟩ := hb.facts; obtain ⟨hc2, hf2, hz2⟩ := hb2.facts)) | (go_at_call 14; ((with_reducible refine (width_c _ HW.out).mono ?_); rintro e w2 ⟨rfl, hq⟩; replace hb := Ext.via hb hq (by repeat (first | exact Ext.refl _ | refine Ext.drew ?_ | refine Ext.drewN ?_ _ | refine Ext.alloc ?_ _)); replace hb2 := Ext.via hb2 hq (by repeat (first | exact Ext.refl _ | refine Ext.drew ?_ | refine Ext.drewN ?_ _ | refine Ext.alloc ?_ _)); clear hq; obtain ⟨hc, hf, hz⟩ := hb.facts; obtain ⟨hc2, hf2, hz2⟩ := hb2.facts)) | (go_at_call 22; ((with_reducible refine (change_c _ H2.out).mono ?_); rintro e w2 ⟨rfl, hq⟩; replace hb := Ext.via hb hq (by repeat (first | exact Ext.refl _ | refine Ext.drew ?_ | refine Ext.drewN ?_ _ | refine Ext.alloc ?_ _)); replace hb2 := Ext.via hb2 hq (by repeat (first | exact Ext.refl _ | refine Ext.drew ?_ | refine Ext.drewN ?_ _ | refine Ext.alloc ?_ _)); clear hq; obtain ⟨hc, hf, hz⟩ := hb.facts; obtain ⟨hc2, hf2, hz2⟩ := hb2.facts)) | (go_at_call 10; ((with_reducible refine (stitches_any _ _ _ _ _ _).mono ?_); rintro e w2 ⟨rfl, hq⟩; replace hb := Ext.via hb hq (by repeat (first | exact Ext.refl _ | refine Ext.drew ?_ | refine Ext.drewN ?_ _ | refine Ext.alloc ?_ _)); replace hb2 := Ext.via hb2 hq (by repeat (first | exact Ext.refl _ | refine Ext.drew ?_ | refine Ext.drewN ?_ _ | refine Ext.alloc ?_ _)); clear hq; obtain ⟨hc, hf, hz⟩ := hb.facts; obtain ⟨hc2, hf2, hz2⟩ := hb2.facts)) | (go_at_call 14; ((with_reducible refine (width_any _ _ _ _ _ _).mono ?_); rintro e w2 ⟨rfl, hq⟩; replace hb := Ext.via hb hq (by repeat (first | exact Ext.refl _ | refine Ext.drew ?_ | refine Ext.drewN ?_ _ | refine Ext.alloc ?_ _)); replace hb2 := Ext.via hb2 hq (by repeat (first | exact Ext.refl _ | refine Ext.drew ?_ | refine Ext.drewN ?_ _ | refine Ext.alloc ?_ _)); clear hq; obtain ⟨hc, hf, hz⟩ := hb.facts; obtain ⟨hc2, hf2, hz2⟩ := hb2.facts)))
  go_ret
  clear hb2
  exact ⟨rfl, by repeat (first | exact Ext.refl _ | refine Ext.alloc ?_ _ | refine Ext.drew ?_ | refine Ext.drewN ?_ _ | refine Ext.trans ?_ (by assumption))⟩

set_option maxRecDepth 100000 in
theorem gaugeSame_lifted (os : Os) (started : os.Started) (H : Type) (enc : TypeId × Value → H) :
    ReturnsInHanded {} Try.checked os 7 .any (Rows.gaugeSameSpec.pre6 enc Try.prog Try.f7 Rows.gaugeSameRow.domain false) (Rows.gaugeSameSpec.post enc Try.prog Try.f7 false true false false) := by
  refine returnsInHanded_of_change (C := Try.checked) own started (by kernel_rfl) Try.func7
    (ChangeSpec.witness6 (enc := enc) (C := Try.checked) false ⟨#[], #[.agg #[.int .i64 0, .int .i64 0, .int .i64 0, .int .i64 0], .int .i64 0, .int .i64 0, .int .i64 0], []⟩ 8 (by kernel_rfl) (by kernel_rfl) (by kernel_rfl) (by kernel_rfl)) ?_
  intro W base args ds gs before hval0 hW hcnd _
  have hval : ∀ (j : Nat) t v, Try.f7.params[j]? = some t → args[j]? = some v → Value.okWide Try.prog W .any base t v := hval0
  have hW' := hW
  obtain ⟨p, q, hA0, hV, rfl, hfz, hnd⟩ := hW
  have hA : DataW.TrodAll enc Try.prog W 0 (fun _ => true) true Try.f7.params.toList args.toList ds p := hA0
  rw [Try.params7] at hA hval
  obtain ⟨v0, vs0, d0, ds0, p0, q0, hargs, rfl, rfl, h0, r0⟩ := trodAll_cons hA
  obtain ⟨v1, vs1, d1, ds1, p1, q1, rfl, rfl, rfl, h1, r1⟩ := trodAll_cons r0
  obtain ⟨v2, vs2, d2, ds2, p2, q2, rfl, rfl, rfl, h2, r2⟩ := trodAll_cons r1
  obtain ⟨v3, vs3, d3, ds3, p3, q3, rfl, rfl, rfl, h3, r3⟩ := trodAll_cons r2
  obtain ⟨rfl, rfl, rfl⟩ := trodAll_nil r3
  obtain rfl : args = #[v0, v1, v2, v3] := by cases args; simp_all
  obtain ⟨rfl, rfl⟩ := trodVars_none hV
  obtain ⟨ga, gb, gc, gd, rfl⟩ := open_gauge (hval 0 23 v0 rfl rfl) h0
  obtain ⟨t, rfl, rfl, -, -⟩ := open_int Try.underlying3 (hval 1 3 v1 rfl rfl) h1
  obtain ⟨width, rfl, rfl, -, -⟩ := open_int Try.underlying3 (hval 2 3 v2 rfl rfl) h2
  obtain ⟨n, rfl, rfl, -, -⟩ := open_int Try.underlying3 (hval 3 3 v3 rfl rfl) h3
  refine (gaugeSame_walk ga gb gc gd t width n W).mono fun e W' ⟨he, hg⟩ => ?_
  subst he
  exact ⟨_, rfl, law_post laid_out rfl Try.underlying4 (by kernel_rfl) rfl hW' rfl hg⟩

theorem gaugeSame_holds : Rows.GaugeSameSaid :=
  OpenClaim.holds_of_wide 7 Try.f7 rfl rfl rfl rfl rfl rfl rfl ⟨rfl, rfl, rfl, rfl, rfl⟩ rfl rfl rfl rfl rfl (by kernel_rfl) Try.func7 (by kernel_rfl)
    (of_decide_eq_true (by kernel_rfl)) (by unfold Func.isWrapper; first | (rw [if_pos (by decide +kernel)]; kernel_rfl) | (rw [if_neg (by decide +kernel)]; exact ⟨rfl, rfl⟩))
    (fun os started H enc _ => gaugeSame_lifted os started H enc)
end Go.Proofs.Ytgcdbnhddjajbaa
