/- GaugeOrder: a greater width has not less stitches, a greater number of stitches not less width, and the sum of two widths at most one stitch more or less than both, for any gauge and lengths. No condition. -/
import Derived.Test.YtgcdbnhddjajbaaLaw
import Derived.Test.YtgcdbnhddjajbaaGaugeF
import Derived.Test.YtgcdbnhddjajbaaGaugeC
namespace Go.Proofs.Ytgcdbnhddjajbaa
open Go.ChangeShapes Go.WideShapes Go.ChangeAt Go.RowKit Go.Joins

set_option maxRecDepth 100000 in
set_option maxHeartbeats 4000000 in
theorem gaugeOrder_walk (ga gb gc gd width more n m : Int) (w : World) :
    Calls Try.prog 6 #[.agg #[.int .i64 ga, .int .i64 gb, .int .i64 gc, .int .i64 gd], .int .i64 width, .int .i64 more, .int .i64 n, .int .i64 m] w fun e w' => e = .returned (.bool true) ∧ Ext w w' := by
  have hb : Ext (w.alloc (.cells #[.int .i64 ga, .int .i64 gb, .int .i64 gc, .int .i64 gd] 23)) (w.alloc (.cells #[.int .i64 ga, .int .i64 gb, .int .i64 gc, .int .i64 gd] 23)) := Ext.refl _
  cases hg : gok ga gb gc gd
  · have he : gerr ga gb gc gd = 8 := by simp [gerr, hg]
    go_enter Try.func6, Try.ntmps6
    go_wp2_with (first | (go_at_call 24; ((with_reducible refine (alive_any _).mono ?_); rintro e w1 ⟨rfl, hq⟩; replace hb := Ext.via hb hq (by repeat (first | exact Ext.refl _ | refine Ext.drew ?_ | refine Ext.drewN ?_ _ | refine Ext.alloc ?_ _)); clear hq; obtain ⟨hc, hf, hz⟩ := hb.facts)) | (go_at_call 19; ((with_reducible refine (rcheck_any _ _ _ _ _).mono ?_); rintro e w1 ⟨rfl, hq⟩; replace hb := Ext.via hb hq (by repeat (first | exact Ext.refl _ | refine Ext.drew ?_ | refine Ext.drewN ?_ _ | refine Ext.alloc ?_ _)); clear hq; obtain ⟨hc, hf, hz⟩ := hb.facts)))
    go_ret
    exact ⟨rfl, by repeat (first | exact Ext.refl _ | refine Ext.alloc ?_ _ | refine Ext.drew ?_ | refine Ext.drewN ?_ _ | refine Ext.trans ?_ (by assumption))⟩
  have he : gerr ga gb gc gd = 0 := by simp [gerr, hg]
  obtain ⟨⟨ga0, ga1⟩, ⟨gb0, gb1⟩, ⟨gc0, gc1⟩, gd0, gd1⟩ := gok_e hg
  by_cases hgd : 0 ≤ more ∧ more ≤ 1000000 ∧ 0 ≤ width ∧ width ≤ 1000000 ∧ width + more ≤ 1000000 ∧ 0 ≤ n ∧ n ≤ 1000000 ∧ n ≤ m
  case neg =>
    have hd : (more < 0) ∨ (0 ≤ more ∧ 1000000 < more) ∨ (0 ≤ more ∧ more ≤ 1000000 ∧ width < 0) ∨ (0 ≤ more ∧ more ≤ 1000000 ∧ 0 ≤ width ∧ 1000000 < width) ∨ (0 ≤ more ∧ more ≤ 1000000 ∧ 0 ≤ width ∧ width ≤ 1000000 ∧ 1000000 < width + more) ∨ (0 ≤ more ∧ more ≤ 1000000 ∧ 0 ≤ width ∧ width ≤ 1000000 ∧ width + more ≤ 1000000 ∧ n < 0) ∨ (0 ≤ more ∧ more ≤ 1000000 ∧ 0 ≤ width ∧ width ≤ 1000000 ∧ width + more ≤ 1000000 ∧ 0 ≤ n ∧ 1000000 < n) ∨ (0 ≤ more ∧ more ≤ 1000000 ∧ 0 ≤ width ∧ width ≤ 1000000 ∧ width + more ≤ 1000000 ∧ 0 ≤ n ∧ n ≤ 1000000 ∧ m < n) := by omega
    clear hgd
    rcases hd with k1 | ⟨k1, k2⟩ | ⟨k1, k2, k3⟩ | ⟨k1, k2, k3, k4⟩ | ⟨k1, k2, k3, k4, k5⟩ | ⟨k1, k2, k3, k4, k5, k6⟩ | ⟨k1, k2, k3, k4, k5, k6, k7⟩ | ⟨k1, k2, k3, k4, k5, k6, k7, k8⟩
    all_goals
      go_enter Try.func6, Try.ntmps6
      go_wp2_with (first | (go_at_call 24; ((with_reducible refine (alive_any _).mono ?_); rintro e w1 ⟨rfl, hq⟩; replace hb := Ext.via hb hq (by repeat (first | exact Ext.refl _ | refine Ext.drew ?_ | refine Ext.drewN ?_ _ | refine Ext.alloc ?_ _)); clear hq; obtain ⟨hc, hf, hz⟩ := hb.facts)) | (go_at_call 19; ((with_reducible refine (rcheck_any _ _ _ _ _).mono ?_); rintro e w1 ⟨rfl, hq⟩; replace hb := Ext.via hb hq (by repeat (first | exact Ext.refl _ | refine Ext.drew ?_ | refine Ext.drewN ?_ _ | refine Ext.alloc ?_ _)); clear hq; obtain ⟨hc, hf, hz⟩ := hb.facts)))
      go_ret
      exact ⟨rfl, by repeat (first | exact Ext.refl _ | refine Ext.alloc ?_ _ | refine Ext.drew ?_ | refine Ext.drewN ?_ _ | refine Ext.trans ?_ (by assumption))⟩
  obtain ⟨m0, m1, w0, w1, wm, n0, n1, nm⟩ := hgd
  rcases scale_three (gok ga gb gc gd) hg (width + more) (near ((width + more) * ga) gb) with ⟨v, e, hw, he0, hn0⟩ | ⟨s0, s1, hw⟩
  · have HB := Lib.hid hw; clear hw
    rcases scale_three (gok ga gb gc gd) hg m (near (m * gb) ga) with ⟨v', e', hh, he1, hn1⟩ | ⟨s2, s3, hh⟩
    · have HQ := Lib.hid hh; clear hh
      go_enter Try.func6, Try.ntmps6
      go_wp2_with (first | (go_at_call 24; ((with_reducible refine (alive_any _).mono ?_); rintro e w1 ⟨rfl, hq⟩; replace hb := Ext.via hb hq (by repeat (first | exact Ext.refl _ | refine Ext.drew ?_ | refine Ext.drewN ?_ _ | refine Ext.alloc ?_ _)); clear hq; obtain ⟨hc, hf, hz⟩ := hb.facts)) | (go_at_call 19; ((with_reducible refine (rcheck_any _ _ _ _ _).mono ?_); rintro e w1 ⟨rfl, hq⟩; replace hb := Ext.via hb hq (by repeat (first | exact Ext.refl _ | refine Ext.drew ?_ | refine Ext.drewN ?_ _ | refine Ext.alloc ?_ _)); clear hq; obtain ⟨hc, hf, hz⟩ := hb.facts)) | (go_at_call 10; ((with_reducible refine (stitches_c _ HA.out).mono ?_); rintro e w1 ⟨rfl, hq⟩; replace hb := Ext.via hb hq (by repeat (first | exact Ext.refl _ | refine Ext.drew ?_ | refine Ext.drewN ?_ _ | refine Ext.alloc ?_ _)); clear hq; obtain ⟨hc, hf, hz⟩ := hb.facts)) | (go_at_call 10; ((with_reducible refine (stitches_c _ HB.out).mono ?_); rintro e w1 ⟨rfl, hq⟩; replace hb := Ext.via hb hq (by repeat (first | exact Ext.refl _ | refine Ext.drew ?_ | refine Ext.drewN ?_ _ | refine Ext.alloc ?_ _)); clear hq; obtain ⟨hc, hf, hz⟩ := hb.facts)) | (go_at_call 10; ((with_reducible refine (stitches_c _ HC.out).mono ?_); rintro e w1 ⟨rfl, hq⟩; replace hb := Ext.via hb hq (by repeat (first | exact Ext.refl _ | refine Ext.drew ?_ | refine Ext.drewN ?_ _ | refine Ext.alloc ?_ _)); clear hq; obtain ⟨hc, hf, hz⟩ := hb.facts)) | (go_at_call 14; ((with_reducible refine (width_c _ HP.out).mono ?_); rintro e w1 ⟨rfl, hq⟩; replace hb := Ext.via hb hq (by repeat (first | exact Ext.refl _ | refine Ext.drew ?_ | refine Ext.drewN ?_ _ | refine Ext.alloc ?_ _)); clear hq; obtain ⟨hc, hf, hz⟩ := hb.facts)) | (go_at_call 14; ((with_reducible refine (width_c _ HQ.out).mono ?_); rintro e w1 ⟨rfl, hq⟩; replace hb := Ext.via hb hq (by repeat (first | exact Ext.refl _ | refine Ext.drew ?_ | refine Ext.drewN ?_ _ | refine Ext.alloc ?_ _)); clear hq; obtain ⟨hc, hf, hz⟩ := hb.facts)) | (go_at_call 10; ((with_reducible refine (stitches_any _ _ _ _ _ _).mono ?_); rintro e w1 ⟨rfl, hq⟩; replace hb := Ext.via hb hq (by repeat (first | exact Ext.refl _ | refine Ext.drew ?_ | refine Ext.drewN ?_ _ | refine Ext.alloc ?_ _)); clear hq; obtain ⟨hc, hf, hz⟩ := hb.facts)) | (go_at_call 14; ((with_reducible refine (width_any _ _ _ _ _ _).mono ?_); rintro e w1 ⟨rfl, hq⟩; replace hb := Ext.via hb hq (by repeat (first | exact Ext.refl _ | refine Ext.drew ?_ | refine Ext.drewN ?_ _ | refine Ext.alloc ?_ _)); clear hq; obtain ⟨hc, hf, hz⟩ := hb.facts)))
      go_ret
      exact ⟨rfl, by repeat (first | exact Ext.refl _ | refine Ext.alloc ?_ _ | refine Ext.drew ?_ | refine Ext.drewN ?_ _ | refine Ext.trans ?_ (by assumption))⟩
    · have HQ := Lib.hid hh; clear hh
      have hP := order_lo (num := gb) hg (show 1 ≤ ga by omega) (show 0 ≤ gb by omega) n0 nm s2 s3
      have HP := Lib.hid hP.1
      have HL := hP.2
      clear hP
      go_enter Try.func6, Try.ntmps6
      go_wp2_with (first | (go_at_call 24; ((with_reducible refine (alive_any _).mono ?_); rintro e w1 ⟨rfl, hq⟩; replace hb := Ext.via hb hq (by repeat (first | exact Ext.refl _ | refine Ext.drew ?_ | refine Ext.drewN ?_ _ | refine Ext.alloc ?_ _)); clear hq; obtain ⟨hc, hf, hz⟩ := hb.facts)) | (go_at_call 19; ((with_reducible refine (rcheck_any _ _ _ _ _).mono ?_); rintro e w1 ⟨rfl, hq⟩; replace hb := Ext.via hb hq (by repeat (first | exact Ext.refl _ | refine Ext.drew ?_ | refine Ext.drewN ?_ _ | refine Ext.alloc ?_ _)); clear hq; obtain ⟨hc, hf, hz⟩ := hb.facts)) | (go_at_call 10; ((with_reducible refine (stitches_c _ HA.out).mono ?_); rintro e w1 ⟨rfl, hq⟩; replace hb := Ext.via hb hq (by repeat (first | exact Ext.refl _ | refine Ext.drew ?_ | refine Ext.drewN ?_ _ | refine Ext.alloc ?_ _)); clear hq; obtain ⟨hc, hf, hz⟩ := hb.facts)) | (go_at_call 10; ((with_reducible refine (stitches_c _ HB.out).mono ?_); rintro e w1 ⟨rfl, hq⟩; replace hb := Ext.via hb hq (by repeat (first | exact Ext.refl _ | refine Ext.drew ?_ | refine Ext.drewN ?_ _ | refine Ext.alloc ?_ _)); clear hq; obtain ⟨hc, hf, hz⟩ := hb.facts)) | (go_at_call 10; ((with_reducible refine (stitches_c _ HC.out).mono ?_); rintro e w1 ⟨rfl, hq⟩; replace hb := Ext.via hb hq (by repeat (first | exact Ext.refl _ | refine Ext.drew ?_ | refine Ext.drewN ?_ _ | refine Ext.alloc ?_ _)); clear hq; obtain ⟨hc, hf, hz⟩ := hb.facts)) | (go_at_call 14; ((with_reducible refine (width_c _ HP.out).mono ?_); rintro e w1 ⟨rfl, hq⟩; replace hb := Ext.via hb hq (by repeat (first | exact Ext.refl _ | refine Ext.drew ?_ | refine Ext.drewN ?_ _ | refine Ext.alloc ?_ _)); clear hq; obtain ⟨hc, hf, hz⟩ := hb.facts)) | (go_at_call 14; ((with_reducible refine (width_c _ HQ.out).mono ?_); rintro e w1 ⟨rfl, hq⟩; replace hb := Ext.via hb hq (by repeat (first | exact Ext.refl _ | refine Ext.drew ?_ | refine Ext.drewN ?_ _ | refine Ext.alloc ?_ _)); clear hq; obtain ⟨hc, hf, hz⟩ := hb.facts)) | (go_at_call 10; ((with_reducible refine (stitches_any _ _ _ _ _ _).mono ?_); rintro e w1 ⟨rfl, hq⟩; replace hb := Ext.via hb hq (by repeat (first | exact Ext.refl _ | refine Ext.drew ?_ | refine Ext.drewN ?_ _ | refine Ext.alloc ?_ _)); clear hq; obtain ⟨hc, hf, hz⟩ := hb.facts)) | (go_at_call 14; ((with_reducible refine (width_any _ _ _ _ _ _).mono ?_); rintro e w1 ⟨rfl, hq⟩; replace hb := Ext.via hb hq (by repeat (first | exact Ext.refl _ | refine Ext.drew ?_ | refine Ext.drewN ?_ _ | refine Ext.alloc ?_ _)); clear hq; obtain ⟨hc, hf, hz⟩ := hb.facts)))
      go_ret
      exact ⟨rfl, by repeat (first | exact Ext.refl _ | refine Ext.alloc ?_ _ | refine Ext.drew ?_ | refine Ext.drewN ?_ _ | refine Ext.trans ?_ (by assumption))⟩
  · have HB := Lib.hid hw; clear hw
    have hA := order_lo (num := ga) hg (show 1 ≤ gb by omega) (show 0 ≤ ga by omega) w0 (show width ≤ width + more by omega) s0 s1
    have hC := order_lo (num := ga) hg (show 1 ≤ gb by omega) (show 0 ≤ ga by omega) m0 (show more ≤ width + more by omega) s0 s1
    have HA := Lib.hid hA.1
    have HC := Lib.hid hC.1
    have HL := hA.2
    obtain ⟨x0, x1⟩ := order_sum (a := ga) (b := gb) (x := width) (y := more) gb0
    obtain ⟨y0, y1⟩ := order_bd (num := ga) (show 1 ≤ gb by omega) (show 0 ≤ ga by omega) w0 (show width ≤ width + more by omega) s1
    obtain ⟨y2, y3⟩ := order_bd (num := ga) (show 1 ≤ gb by omega) (show 0 ≤ ga by omega) m0 (show more ≤ width + more by omega) s1
    clear hA hC
    rcases scale_three (gok ga gb gc gd) hg m (near (m * gb) ga) with ⟨v', e', hh, he1, hn1⟩ | ⟨s2, s3, hh⟩
    · have HQ := Lib.hid hh; clear hh
      go_enter Try.func6, Try.ntmps6
      go_wp2_with (first | (go_at_call 24; ((with_reducible refine (alive_any _).mono ?_); rintro e w1 ⟨rfl, hq⟩; replace hb := Ext.via hb hq (by repeat (first | exact Ext.refl _ | refine Ext.drew ?_ | refine Ext.drewN ?_ _ | refine Ext.alloc ?_ _)); clear hq; obtain ⟨hc, hf, hz⟩ := hb.facts)) | (go_at_call 19; ((with_reducible refine (rcheck_any _ _ _ _ _).mono ?_); rintro e w1 ⟨rfl, hq⟩; replace hb := Ext.via hb hq (by repeat (first | exact Ext.refl _ | refine Ext.drew ?_ | refine Ext.drewN ?_ _ | refine Ext.alloc ?_ _)); clear hq; obtain ⟨hc, hf, hz⟩ := hb.facts)) | (go_at_call 10; ((with_reducible refine (stitches_c _ HA.out).mono ?_); rintro e w1 ⟨rfl, hq⟩; replace hb := Ext.via hb hq (by repeat (first | exact Ext.refl _ | refine Ext.drew ?_ | refine Ext.drewN ?_ _ | refine Ext.alloc ?_ _)); clear hq; obtain ⟨hc, hf, hz⟩ := hb.facts)) | (go_at_call 10; ((with_reducible refine (stitches_c _ HB.out).mono ?_); rintro e w1 ⟨rfl, hq⟩; replace hb := Ext.via hb hq (by repeat (first | exact Ext.refl _ | refine Ext.drew ?_ | refine Ext.drewN ?_ _ | refine Ext.alloc ?_ _)); clear hq; obtain ⟨hc, hf, hz⟩ := hb.facts)) | (go_at_call 10; ((with_reducible refine (stitches_c _ HC.out).mono ?_); rintro e w1 ⟨rfl, hq⟩; replace hb := Ext.via hb hq (by repeat (first | exact Ext.refl _ | refine Ext.drew ?_ | refine Ext.drewN ?_ _ | refine Ext.alloc ?_ _)); clear hq; obtain ⟨hc, hf, hz⟩ := hb.facts)) | (go_at_call 14; ((with_reducible refine (width_c _ HP.out).mono ?_); rintro e w1 ⟨rfl, hq⟩; replace hb := Ext.via hb hq (by repeat (first | exact Ext.refl _ | refine Ext.drew ?_ | refine Ext.drewN ?_ _ | refine Ext.alloc ?_ _)); clear hq; obtain ⟨hc, hf, hz⟩ := hb.facts)) | (go_at_call 14; ((with_reducible refine (width_c _ HQ.out).mono ?_); rintro e w1 ⟨rfl, hq⟩; replace hb := Ext.via hb hq (by repeat (first | exact Ext.refl _ | refine Ext.drew ?_ | refine Ext.drewN ?_ _ | refine Ext.alloc ?_ _)); clear hq; obtain ⟨hc, hf, hz⟩ := hb.facts)) | (go_at_call 10; ((with_reducible refine (stitches_any _ _ _ _ _ _).mono ?_); rintro e w1 ⟨rfl, hq⟩; replace hb := Ext.via hb hq (by repeat (first | exact Ext.refl _ | refine Ext.drew ?_ | refine Ext.drewN ?_ _ | refine Ext.alloc ?_ _)); clear hq; obtain ⟨hc, hf, hz⟩ := hb.facts)) | (go_at_call 14; ((with_reducible refine (width_any _ _ _ _ _ _).mono ?_); rintro e w1 ⟨rfl, hq⟩; replace hb := Ext.via hb hq (by repeat (first | exact Ext.refl _ | refine Ext.drew ?_ | refine Ext.drewN ?_ _ | refine Ext.alloc ?_ _)); clear hq; obtain ⟨hc, hf, hz⟩ := hb.facts)))
      go_ret
      exact ⟨rfl, by repeat (first | exact Ext.refl _ | refine Ext.alloc ?_ _ | refine Ext.drew ?_ | refine Ext.drewN ?_ _ | refine Ext.trans ?_ (by assumption))⟩
    · have HQ := Lib.hid hh; clear hh
      have hP := order_lo (num := gb) hg (show 1 ≤ ga by omega) (show 0 ≤ gb by omega) n0 nm s2 s3
      have HP := Lib.hid hP.1
      have HL2 := hP.2
      clear hP
      go_enter Try.func6, Try.ntmps6
      go_wp2_with (first | (go_at_call 24; ((with_reducible refine (alive_any _).mono ?_); rintro e w1 ⟨rfl, hq⟩; replace hb := Ext.via hb hq (by repeat (first | exact Ext.refl _ | refine Ext.drew ?_ | refine Ext.drewN ?_ _ | refine Ext.alloc ?_ _)); clear hq; obtain ⟨hc, hf, hz⟩ := hb.facts)) | (go_at_call 19; ((with_reducible refine (rcheck_any _ _ _ _ _).mono ?_); rintro e w1 ⟨rfl, hq⟩; replace hb := Ext.via hb hq (by repeat (first | exact Ext.refl _ | refine Ext.drew ?_ | refine Ext.drewN ?_ _ | refine Ext.alloc ?_ _)); clear hq; obtain ⟨hc, hf, hz⟩ := hb.facts)) | (go_at_call 10; ((with_reducible refine (stitches_c _ HA.out).mono ?_); rintro e w1 ⟨rfl, hq⟩; replace hb := Ext.via hb hq (by repeat (first | exact Ext.refl _ | refine Ext.drew ?_ | refine Ext.drewN ?_ _ | refine Ext.alloc ?_ _)); clear hq; obtain ⟨hc, hf, hz⟩ := hb.facts)) | (go_at_call 10; ((with_reducible refine (stitches_c _ HB.out).mono ?_); rintro e w1 ⟨rfl, hq⟩; replace hb := Ext.via hb hq (by repeat (first | exact Ext.refl _ | refine Ext.drew ?_ | refine Ext.drewN ?_ _ | refine Ext.alloc ?_ _)); clear hq; obtain ⟨hc, hf, hz⟩ := hb.facts)) | (go_at_call 10; ((with_reducible refine (stitches_c _ HC.out).mono ?_); rintro e w1 ⟨rfl, hq⟩; replace hb := Ext.via hb hq (by repeat (first | exact Ext.refl _ | refine Ext.drew ?_ | refine Ext.drewN ?_ _ | refine Ext.alloc ?_ _)); clear hq; obtain ⟨hc, hf, hz⟩ := hb.facts)) | (go_at_call 14; ((with_reducible refine (width_c _ HP.out).mono ?_); rintro e w1 ⟨rfl, hq⟩; replace hb := Ext.via hb hq (by repeat (first | exact Ext.refl _ | refine Ext.drew ?_ | refine Ext.drewN ?_ _ | refine Ext.alloc ?_ _)); clear hq; obtain ⟨hc, hf, hz⟩ := hb.facts)) | (go_at_call 14; ((with_reducible refine (width_c _ HQ.out).mono ?_); rintro e w1 ⟨rfl, hq⟩; replace hb := Ext.via hb hq (by repeat (first | exact Ext.refl _ | refine Ext.drew ?_ | refine Ext.drewN ?_ _ | refine Ext.alloc ?_ _)); clear hq; obtain ⟨hc, hf, hz⟩ := hb.facts)) | (go_at_call 10; ((with_reducible refine (stitches_any _ _ _ _ _ _).mono ?_); rintro e w1 ⟨rfl, hq⟩; replace hb := Ext.via hb hq (by repeat (first | exact Ext.refl _ | refine Ext.drew ?_ | refine Ext.drewN ?_ _ | refine Ext.alloc ?_ _)); clear hq; obtain ⟨hc, hf, hz⟩ := hb.facts)) | (go_at_call 14; ((with_reducible refine (width_any _ _ _ _ _ _).mono ?_); rintro e w1 ⟨rfl, hq⟩; replace hb := Ext.via hb hq (by repeat (first | exact Ext.refl _ | refine Ext.drew ?_ | refine Ext.drewN ?_ _ | refine Ext.alloc ?_ _)); clear hq; obtain ⟨hc, hf, hz⟩ := hb.facts)))
      go_ret
      exact ⟨rfl, by repeat (first | exact Ext.refl _ | refine Ext.alloc ?_ _ | refine Ext.drew ?_ | refine Ext.drewN ?_ _ | refine Ext.trans ?_ (by assumption))⟩

set_option maxRecDepth 100000 in
theorem gaugeOrder_lifted (os : Os) (started : os.Started) (H : Type) (enc : TypeId × Value → H) :
    ReturnsInHanded {} Try.checked os 6 .any (Rows.gaugeOrderSpec.pre6 enc Try.prog Try.f6 Rows.gaugeOrderRow.domain false) (Rows.gaugeOrderSpec.post enc Try.prog Try.f6 false true false false) := by
  refine returnsInHanded_of_change (C := Try.checked) own started (by kernel_rfl) Try.func6
    (ChangeSpec.witness6 (enc := enc) (C := Try.checked) false ⟨#[], #[.agg #[.int .i64 0, .int .i64 0, .int .i64 0, .int .i64 0], .int .i64 0, .int .i64 0, .int .i64 0, .int .i64 0], []⟩ 8 (by kernel_rfl) (by kernel_rfl) (by kernel_rfl) (by kernel_rfl)) ?_
  intro W base args ds gs before hval0 hW hcnd _
  have hval : ∀ (j : Nat) t v, Try.f6.params[j]? = some t → args[j]? = some v → Value.okWide Try.prog W .any base t v := hval0
  have hW' := hW
  obtain ⟨p, q, hA0, hV, rfl, hfz, hnd⟩ := hW
  have hA : DataW.TrodAll enc Try.prog W 0 (fun _ => true) true Try.f6.params.toList args.toList ds p := hA0
  rw [Try.params6] at hA hval
  obtain ⟨v0, vs0, d0, ds0, p0, q0, hargs, rfl, rfl, h0, r0⟩ := trodAll_cons hA
  obtain ⟨v1, vs1, d1, ds1, p1, q1, rfl, rfl, rfl, h1, r1⟩ := trodAll_cons r0
  obtain ⟨v2, vs2, d2, ds2, p2, q2, rfl, rfl, rfl, h2, r2⟩ := trodAll_cons r1
  obtain ⟨v3, vs3, d3, ds3, p3, q3, rfl, rfl, rfl, h3, r3⟩ := trodAll_cons r2
  obtain ⟨v4, vs4, d4, ds4, p4, q4, rfl, rfl, rfl, h4, r4⟩ := trodAll_cons r3
  obtain ⟨rfl, rfl, rfl⟩ := trodAll_nil r4
  obtain rfl : args = #[v0, v1, v2, v3, v4] := by cases args; simp_all
  obtain ⟨rfl, rfl⟩ := trodVars_none hV
  obtain ⟨ga, gb, gc, gd, rfl⟩ := open_gauge (hval 0 23 v0 rfl rfl) h0
  obtain ⟨width, rfl, rfl, -, -⟩ := open_int Try.underlying3 (hval 1 3 v1 rfl rfl) h1
  obtain ⟨more, rfl, rfl, -, -⟩ := open_int Try.underlying3 (hval 2 3 v2 rfl rfl) h2
  obtain ⟨n, rfl, rfl, -, -⟩ := open_int Try.underlying3 (hval 3 3 v3 rfl rfl) h3
  obtain ⟨m, rfl, rfl, -, -⟩ := open_int Try.underlying3 (hval 4 3 v4 rfl rfl) h4
  refine (gaugeOrder_walk ga gb gc gd width more n m W).mono fun e W' ⟨he, hg⟩ => ?_
  subst he
  exact ⟨_, rfl, law_post laid_out rfl Try.underlying4 (by kernel_rfl) rfl hW' rfl hg⟩

theorem gaugeOrder_holds : Rows.GaugeOrderSaid :=
  OpenClaim.holds_of_wide 6 Try.f6 rfl rfl rfl rfl rfl rfl rfl ⟨rfl, rfl, rfl, rfl, rfl⟩ rfl rfl rfl rfl rfl (by kernel_rfl) Try.func6 (by kernel_rfl)
    (of_decide_eq_true (by kernel_rfl)) (by unfold Func.isWrapper; first | (rw [if_pos (by decide +kernel)]; kernel_rfl) | (rw [if_neg (by decide +kernel)]; exact ⟨rfl, rfl⟩))
    (fun os started H enc _ => gaugeOrder_lifted os started H enc)
end Go.Proofs.Ytgcdbnhddjajbaa
