/- Parse of the text of a chart is the chart, and the text of what is read is the string; for any chart of at most 12 rows of at most 60 cells, or too many, and a string of at most 3,000 bytes. -/
import Derived.Test.YtjjhoonkooihjaaGreatDoorG16
import Derived.Test.YtjjhoonkooihjaaGreatDoorG12
import Derived.Test.YtjjhoonkooihjaaGreatDoorG04
import Derived.Test.YtjjhoonkooihjaaGreatDoorCards
namespace Go.Proofs.YtjjhoonkooihjaaGreatDoor
set_option maxRecDepth 100000
set_option maxRecDepth 100000
open Go.ChangeShapes Go.WideShapes Go.ChangeAt Go.RowKit Go.Joins
theorem parse_empty : chartP [] = none := by decide +kernel
set_option maxHeartbeats 8000000 in
theorem chartBack_walk (s : Int) (m c : Nat) (A : Option Addr) (la : List Ro) (t : List UInt8) (w : World) (ha : Rws w (fun _ => True) A m la) (hg : Glob w) :
    Calls Tryz.prog 6 #[.agg #[.int .i64 s, .slice A m c], .string ⟨t.toArray⟩] w fun e w' => e = .returned (.bool true) ∧ Ext w w' := by
  have HA := Lib.hid ha
  have HG := Lib.hid hg
  have HL := Lib.hid ha.len
  clear ha hg
  have hB0 := Lib.hid (show Ext w (w.alloc (.cells #[.int .i64 s, .slice A m c] 24)) from (Ext.refl _).alloc _)
  have hb : Ext (w.alloc (.cells #[.int .i64 s, .slice A m c] 24)) (w.alloc (.cells #[.int .i64 s, .slice A m c] 24)) := Ext.refl _
  obtain ⟨hc, hf, hz⟩ := hb.facts
  cases hga : greatC la
  case true =>
    have HGA := Lib.hid hga
    clear hga
    go_enter Tryz.func6, Tryz.ntmps6
    go_wp2_with (first
      | (go_at_call 15; go_loud (((with_reducible refine (calive_any _ (HG.out.ext (hB0.out.trans (hb.trans (by repeat (first | exact Ext.refl _ | refine Ext.drew ?_ | refine Ext.drewN ?_ _ | refine Ext.alloc ?_ _)))))).mono ?_); rintro e w1 ⟨rfl, hq1⟩; replace hb := Ext.via hb hq1 (by repeat (first | exact Ext.refl _ | refine Ext.drew ?_ | refine Ext.drewN ?_ _ | refine Ext.alloc ?_ _)); clear hq1; obtain ⟨hc, hf, hz⟩ := hb.facts)))
      | (go_at_call 9; go_loud (((with_reducible refine (cgreat_any s A m c la _ (HA.out.ext (hB0.out.trans (hb.trans (by repeat (first | exact Ext.refl _ | refine Ext.drew ?_ | refine Ext.drewN ?_ _ | refine Ext.alloc ?_ _)))))).mono ?_); rintro e w1 ⟨rfl, hq1⟩; replace hb := Ext.via hb hq1 (by repeat (first | exact Ext.refl _ | refine Ext.drew ?_ | refine Ext.drewN ?_ _ | refine Ext.alloc ?_ _)); clear hq1; rw [HGA.out]; obtain ⟨hc, hf, hz⟩ := hb.facts))))
    go_ret
    exact ⟨rfl, hB0.out.trans (hb.trans (by repeat (first | exact Ext.refl _ | refine Ext.drew ?_ | refine Ext.drewN ?_ _ | refine Ext.alloc ?_ _)))⟩
  have HGA := Lib.hid hga
  clear hga
  by_cases hs : (3000 : Int) < (t.length : Int)
  case pos =>
    go_enter Tryz.func6, Tryz.ntmps6
    go_wp2_with (first
      | (go_at_call 15; go_loud (((with_reducible refine (calive_any _ (HG.out.ext (hB0.out.trans (hb.trans (by repeat (first | exact Ext.refl _ | refine Ext.drew ?_ | refine Ext.drewN ?_ _ | refine Ext.alloc ?_ _)))))).mono ?_); rintro e w1 ⟨rfl, hq1⟩; replace hb := Ext.via hb hq1 (by repeat (first | exact Ext.refl _ | refine Ext.drew ?_ | refine Ext.drewN ?_ _ | refine Ext.alloc ?_ _)); clear hq1; obtain ⟨hc, hf, hz⟩ := hb.facts)))
      | (go_at_call 9; go_loud (((with_reducible refine (cgreat_any s A m c la _ (HA.out.ext (hB0.out.trans (hb.trans (by repeat (first | exact Ext.refl _ | refine Ext.drew ?_ | refine Ext.drewN ?_ _ | refine Ext.alloc ?_ _)))))).mono ?_); rintro e w1 ⟨rfl, hq1⟩; replace hb := Ext.via hb hq1 (by repeat (first | exact Ext.refl _ | refine Ext.drew ?_ | refine Ext.drewN ?_ _ | refine Ext.alloc ?_ _)); clear hq1; rw [HGA.out]; obtain ⟨hc, hf, hz⟩ := hb.facts))))
    go_ret
    exact ⟨rfl, hB0.out.trans (hb.trans (by repeat (first | exact Ext.refl _ | refine Ext.drew ?_ | refine Ext.drewN ?_ _ | refine Ext.alloc ?_ _)))⟩
  have hs9 : t.length ≤ 3000 := by omega
  by_cases h0 : chkC s la = 0
  case neg =>
    obtain ⟨x, hx⟩ : ∃ x, chkC s la = x := ⟨_, rfl⟩
    have HC0 := Lib.hid hx
    have hne : (x == 0) = false := by rw [hx] at h0; simpa using h0
    clear h0 hx
    cases hp : chartP t with
    | none =>
      have HPX := Lib.hid hp
      clear hp
      go_enter Tryz.func6, Tryz.ntmps6
      go_wp2_with (first
        | (go_at_call 15; go_loud (((with_reducible refine (calive_any _ (HG.out.ext (hB0.out.trans (hb.trans (by repeat (first | exact Ext.refl _ | refine Ext.drew ?_ | refine Ext.drewN ?_ _ | refine Ext.alloc ?_ _)))))).mono ?_); rintro e w1 ⟨rfl, hq1⟩; replace hb := Ext.via hb hq1 (by repeat (first | exact Ext.refl _ | refine Ext.drew ?_ | refine Ext.drewN ?_ _ | refine Ext.alloc ?_ _)); clear hq1; obtain ⟨hc, hf, hz⟩ := hb.facts)))
        | (go_at_call 9; go_loud (((with_reducible refine (cgreat_any s A m c la _ (HA.out.ext (hB0.out.trans (hb.trans (by repeat (first | exact Ext.refl _ | refine Ext.drew ?_ | refine Ext.drewN ?_ _ | refine Ext.alloc ?_ _)))))).mono ?_); rintro e w1 ⟨rfl, hq1⟩; replace hb := Ext.via hb hq1 (by repeat (first | exact Ext.refl _ | refine Ext.drew ?_ | refine Ext.drewN ?_ _ | refine Ext.alloc ?_ _)); clear hq1; rw [HGA.out]; obtain ⟨hc, hf, hz⟩ := hb.facts)))
        | (go_at_call 16; (first | (go_loud ((with_reducible refine (rccheck_any s A m c la _ (HA.out.ext (hB0.out.trans (hb.trans (by repeat (first | exact Ext.refl _ | refine Ext.drew ?_ | refine Ext.drewN ?_ _ | refine Ext.alloc ?_ _)))))).mono ?_); rintro e w1 ⟨rfl, hq1⟩; replace hb := Ext.via hb hq1 (by repeat (first | exact Ext.refl _ | refine Ext.drew ?_ | refine Ext.drewN ?_ _ | refine Ext.alloc ?_ _)); obtain ⟨hc, hf, hz⟩ := hb.facts; rw [HC0.out]; clear hq1))))
        | (go_at_call 12; (first | (go_loud ((with_reducible refine (cparse_x (t := t) HPX.out (by omega) (HG.out.ext (hB0.out.trans (hb.trans (by repeat (first | exact Ext.refl _ | refine Ext.drew ?_ | refine Ext.drewN ?_ _ | refine Ext.alloc ?_ _)))))).mono ?_); rintro e w5 ⟨A5, c5, rfl, hq1⟩; replace hb := Ext.via hb hq1 (by repeat (first | exact Ext.refl _ | refine Ext.drew ?_ | refine Ext.drewN ?_ _ | refine Ext.alloc ?_ _)); obtain ⟨hc, hf, hz⟩ := hb.facts; clear hq1)))))
      go_ret
      exact ⟨rfl, hB0.out.trans (hb.trans (by repeat (first | exact Ext.refl _ | refine Ext.drew ?_ | refine Ext.drewN ?_ _ | refine Ext.alloc ?_ _)))⟩
    | some x =>
      obtain ⟨n, l⟩ := x
      obtain ⟨ht, hcn, hcl⟩ := chart_iff.1 hp
      have hye : ctextE n l = 0 := by rw [ctextE, if_neg (by simpa using hcn), if_neg (by rw [hcl]; omega)]
      have HYE := Lib.hid hye
      have HYV := Lib.hid (show ctextV n l = t by rw [ctextV, if_pos hye, hcl])
      have HYC := Lib.hid hcn
      have HPY := Lib.hid hp
      obtain ⟨ml, hml⟩ : ∃ ml, l.length = ml := ⟨_, rfl⟩
      have HPL := Lib.hid hml
      clear hp ht hcn hcl hye hml
      go_enter Tryz.func6, Tryz.ntmps6
      go_wp2_with (first
        | (go_at_call 15; go_loud (((with_reducible refine (calive_any _ (HG.out.ext (hB0.out.trans (hb.trans (by repeat (first | exact Ext.refl _ | refine Ext.drew ?_ | refine Ext.drewN ?_ _ | refine Ext.alloc ?_ _)))))).mono ?_); rintro e w1 ⟨rfl, hq1⟩; replace hb := Ext.via hb hq1 (by repeat (first | exact Ext.refl _ | refine Ext.drew ?_ | refine Ext.drewN ?_ _ | refine Ext.alloc ?_ _)); clear hq1; obtain ⟨hc, hf, hz⟩ := hb.facts)))
        | (go_at_call 9; go_loud (((with_reducible refine (cgreat_any s A m c la _ (HA.out.ext (hB0.out.trans (hb.trans (by repeat (first | exact Ext.refl _ | refine Ext.drew ?_ | refine Ext.drewN ?_ _ | refine Ext.alloc ?_ _)))))).mono ?_); rintro e w1 ⟨rfl, hq1⟩; replace hb := Ext.via hb hq1 (by repeat (first | exact Ext.refl _ | refine Ext.drew ?_ | refine Ext.drewN ?_ _ | refine Ext.alloc ?_ _)); clear hq1; rw [HGA.out]; obtain ⟨hc, hf, hz⟩ := hb.facts)))
        | (go_at_call 16; (first | ((with_reducible refine (rccheck_any n _ ml _ l _ (HRe.out.ext (by repeat (first | exact Ext.refl _ | refine Ext.drew ?_ | refine Ext.drewN ?_ _ | refine Ext.alloc ?_ _)))).mono ?_); rintro e w7 ⟨rfl, hq1⟩; replace HRe := Lib.hid (HRe.out.ext (Ext.trans (by repeat (first | exact Ext.refl _ | refine Ext.drew ?_ | refine Ext.drewN ?_ _ | refine Ext.alloc ?_ _)) hq1)); replace HXe := Lib.hid (HXe.out.ext (Ext.trans (by repeat (first | exact Ext.refl _ | refine Ext.drew ?_ | refine Ext.drewN ?_ _ | refine Ext.alloc ?_ _)) hq1)); replace hb := Ext.via hb hq1 (by repeat (first | exact Ext.refl _ | refine Ext.drew ?_ | refine Ext.drewN ?_ _ | refine Ext.alloc ?_ _)); obtain ⟨hc, hf, hz⟩ := hb.facts; obtain ⟨k0HXe, k1HXe, k2HXe⟩ := HXe.out; rw [HYC.out]; clear hq1) | (go_loud ((with_reducible refine (rccheck_any s A m c la _ (HA.out.ext (hB0.out.trans (hb.trans (by repeat (first | exact Ext.refl _ | refine Ext.drew ?_ | refine Ext.drewN ?_ _ | refine Ext.alloc ?_ _)))))).mono ?_); rintro e w1 ⟨rfl, hq1⟩; replace hb := Ext.via hb hq1 (by repeat (first | exact Ext.refl _ | refine Ext.drew ?_ | refine Ext.drewN ?_ _ | refine Ext.alloc ?_ _)); obtain ⟨hc, hf, hz⟩ := hb.facts; rw [HC0.out]; clear hq1))))
        | (go_at_call 12; (first | (go_loud ((with_reducible refine (cparse_c (t := t) ml HPY.out HPL.out (HG.out.ext (hB0.out.trans (hb.trans (by repeat (first | exact Ext.refl _ | refine Ext.drew ?_ | refine Ext.drewN ?_ _ | refine Ext.alloc ?_ _)))))).mono ?_); rintro e w5 ⟨A5, c5, rfl, hq1, hr⟩; replace hb := Ext.via hb hq1 (by repeat (first | exact Ext.refl _ | refine Ext.drew ?_ | refine Ext.drewN ?_ _ | refine Ext.alloc ?_ _)); obtain ⟨hc, hf, hz⟩ := hb.facts; have HRe := Lib.hid (hr.any.ext ((Ext.refl _).alloc (.cells #[.int .i64 n, .slice A5 ml c5] 24))); have HXe := Lib.hid (BoxAt.new_ w5 n (.slice A5 ml c5) 24); clear hr; clear hq1))))
        | (go_at_call 10; (first | (go_loud ((with_reducible refine (ctext_c (HRe.out.ext (by repeat (first | exact Ext.refl _ | refine Ext.drew ?_ | refine Ext.drewN ?_ _ | refine Ext.alloc ?_ _))) HYE.out HYV.out (HG.out.ext (hB0.out.trans (hb.trans (by repeat (first | exact Ext.refl _ | refine Ext.drew ?_ | refine Ext.drewN ?_ _ | refine Ext.alloc ?_ _)))))).mono ?_); rintro e w6 ⟨rfl, hq1⟩; replace HRe := Lib.hid (HRe.out.ext (Ext.trans (by repeat (first | exact Ext.refl _ | refine Ext.drew ?_ | refine Ext.drewN ?_ _ | refine Ext.alloc ?_ _)) hq1)); replace HXe := Lib.hid (HXe.out.ext (Ext.trans (by repeat (first | exact Ext.refl _ | refine Ext.drew ?_ | refine Ext.drewN ?_ _ | refine Ext.alloc ?_ _)) hq1)); replace hb := Ext.via hb hq1 (by repeat (first | exact Ext.refl _ | refine Ext.drew ?_ | refine Ext.drewN ?_ _ | refine Ext.alloc ?_ _)); obtain ⟨hc, hf, hz⟩ := hb.facts; obtain ⟨k0HXe, k1HXe, k2HXe⟩ := HXe.out; clear hq1)))))
      go_ret
      exact ⟨rfl, hB0.out.trans (hb.trans (by repeat (first | exact Ext.refl _ | refine Ext.drew ?_ | refine Ext.drewN ?_ _ | refine Ext.alloc ?_ _)))⟩
  have HC0 := Lib.hid h0
  by_cases hlen : 20000 < (chartL s la).length
  · have hte : ctextE s la = 4 := by rw [ctextE, if_neg (by simpa using h0), if_pos hlen]
    have HTE := Lib.hid hte
    have HTV := Lib.hid (show ctextV s la = [] by rw [ctextV, if_neg (by rw [hte]; decide)])
    have HPE := Lib.hid parse_empty
    clear h0 hlen hte
    cases hp : chartP t with
    | none =>
      have HPX := Lib.hid hp
      clear hp
      go_enter Tryz.func6, Tryz.ntmps6
      go_wp2_with (first
        | (go_at_call 15; go_loud (((with_reducible refine (calive_any _ (HG.out.ext (hB0.out.trans (hb.trans (by repeat (first | exact Ext.refl _ | refine Ext.drew ?_ | refine Ext.drewN ?_ _ | refine Ext.alloc ?_ _)))))).mono ?_); rintro e w1 ⟨rfl, hq1⟩; replace hb := Ext.via hb hq1 (by repeat (first | exact Ext.refl _ | refine Ext.drew ?_ | refine Ext.drewN ?_ _ | refine Ext.alloc ?_ _)); clear hq1; obtain ⟨hc, hf, hz⟩ := hb.facts)))
        | (go_at_call 9; go_loud (((with_reducible refine (cgreat_any s A m c la _ (HA.out.ext (hB0.out.trans (hb.trans (by repeat (first | exact Ext.refl _ | refine Ext.drew ?_ | refine Ext.drewN ?_ _ | refine Ext.alloc ?_ _)))))).mono ?_); rintro e w1 ⟨rfl, hq1⟩; replace hb := Ext.via hb hq1 (by repeat (first | exact Ext.refl _ | refine Ext.drew ?_ | refine Ext.drewN ?_ _ | refine Ext.alloc ?_ _)); clear hq1; rw [HGA.out]; obtain ⟨hc, hf, hz⟩ := hb.facts)))
        | (go_at_call 16; (first | (go_loud ((with_reducible refine (rccheck_any s A m c la _ (HA.out.ext (hB0.out.trans (hb.trans (by repeat (first | exact Ext.refl _ | refine Ext.drew ?_ | refine Ext.drewN ?_ _ | refine Ext.alloc ?_ _)))))).mono ?_); rintro e w1 ⟨rfl, hq1⟩; replace hb := Ext.via hb hq1 (by repeat (first | exact Ext.refl _ | refine Ext.drew ?_ | refine Ext.drewN ?_ _ | refine Ext.alloc ?_ _)); obtain ⟨hc, hf, hz⟩ := hb.facts; rw [HC0.out]; clear hq1))))
        | (go_at_call 12; (first | ((with_reducible refine (cparse_x (t := []) HPE.out (by simp) (HG.out.ext (hB0.out.trans (hb.trans (by repeat (first | exact Ext.refl _ | refine Ext.drew ?_ | refine Ext.drewN ?_ _ | refine Ext.alloc ?_ _)))))).mono ?_); rintro e w3 ⟨A3, c3, rfl, hq1⟩; replace hb := Ext.via hb hq1 (by repeat (first | exact Ext.refl _ | refine Ext.drew ?_ | refine Ext.drewN ?_ _ | refine Ext.alloc ?_ _)); obtain ⟨hc, hf, hz⟩ := hb.facts; clear hq1) | (go_loud ((with_reducible refine (cparse_x (t := t) HPX.out (by omega) (HG.out.ext (hB0.out.trans (hb.trans (by repeat (first | exact Ext.refl _ | refine Ext.drew ?_ | refine Ext.drewN ?_ _ | refine Ext.alloc ?_ _)))))).mono ?_); rintro e w5 ⟨A5, c5, rfl, hq1⟩; replace hb := Ext.via hb hq1 (by repeat (first | exact Ext.refl _ | refine Ext.drew ?_ | refine Ext.drewN ?_ _ | refine Ext.alloc ?_ _)); obtain ⟨hc, hf, hz⟩ := hb.facts; clear hq1))))
        | (go_at_call 10; (first | (go_loud ((with_reducible refine (ctext_any s A m c la _ (HA.out.ext (hB0.out.trans (hb.trans (by repeat (first | exact Ext.refl _ | refine Ext.drew ?_ | refine Ext.drewN ?_ _ | refine Ext.alloc ?_ _))))) (HG.out.ext (hB0.out.trans (hb.trans (by repeat (first | exact Ext.refl _ | refine Ext.drew ?_ | refine Ext.drewN ?_ _ | refine Ext.alloc ?_ _)))))).mono ?_); rintro e w2 ⟨rfl, hq1⟩; replace hb := Ext.via hb hq1 (by repeat (first | exact Ext.refl _ | refine Ext.drew ?_ | refine Ext.drewN ?_ _ | refine Ext.alloc ?_ _)); obtain ⟨hc, hf, hz⟩ := hb.facts; rw [HTE.out, HTV.out]; clear hq1)))))
      go_ret
      exact ⟨rfl, hB0.out.trans (hb.trans (by repeat (first | exact Ext.refl _ | refine Ext.drew ?_ | refine Ext.drewN ?_ _ | refine Ext.alloc ?_ _)))⟩
    | some x =>
      obtain ⟨n, l⟩ := x
      obtain ⟨ht, hcn, hcl⟩ := chart_iff.1 hp
      have hye : ctextE n l = 0 := by rw [ctextE, if_neg (by simpa using hcn), if_neg (by rw [hcl]; omega)]
      have HYE := Lib.hid hye
      have HYV := Lib.hid (show ctextV n l = t by rw [ctextV, if_pos hye, hcl])
      have HYC := Lib.hid hcn
      have HPY := Lib.hid hp
      obtain ⟨ml, hml⟩ : ∃ ml, l.length = ml := ⟨_, rfl⟩
      have HPL := Lib.hid hml
      clear hp ht hcn hcl hye hml
      go_enter Tryz.func6, Tryz.ntmps6
      go_wp2_with (first
        | (go_at_call 15; go_loud (((with_reducible refine (calive_any _ (HG.out.ext (hB0.out.trans (hb.trans (by repeat (first | exact Ext.refl _ | refine Ext.drew ?_ | refine Ext.drewN ?_ _ | refine Ext.alloc ?_ _)))))).mono ?_); rintro e w1 ⟨rfl, hq1⟩; replace hb := Ext.via hb hq1 (by repeat (first | exact Ext.refl _ | refine Ext.drew ?_ | refine Ext.drewN ?_ _ | refine Ext.alloc ?_ _)); clear hq1; obtain ⟨hc, hf, hz⟩ := hb.facts)))
        | (go_at_call 9; go_loud (((with_reducible refine (cgreat_any s A m c la _ (HA.out.ext (hB0.out.trans (hb.trans (by repeat (first | exact Ext.refl _ | refine Ext.drew ?_ | refine Ext.drewN ?_ _ | refine Ext.alloc ?_ _)))))).mono ?_); rintro e w1 ⟨rfl, hq1⟩; replace hb := Ext.via hb hq1 (by repeat (first | exact Ext.refl _ | refine Ext.drew ?_ | refine Ext.drewN ?_ _ | refine Ext.alloc ?_ _)); clear hq1; rw [HGA.out]; obtain ⟨hc, hf, hz⟩ := hb.facts)))
        | (go_at_call 16; (first | ((with_reducible refine (rccheck_any n _ ml _ l _ (HRe.out.ext (by repeat (first | exact Ext.refl _ | refine Ext.drew ?_ | refine Ext.drewN ?_ _ | refine Ext.alloc ?_ _)))).mono ?_); rintro e w7 ⟨rfl, hq1⟩; replace HRe := Lib.hid (HRe.out.ext (Ext.trans (by repeat (first | exact Ext.refl _ | refine Ext.drew ?_ | refine Ext.drewN ?_ _ | refine Ext.alloc ?_ _)) hq1)); replace HXe := Lib.hid (HXe.out.ext (Ext.trans (by repeat (first | exact Ext.refl _ | refine Ext.drew ?_ | refine Ext.drewN ?_ _ | refine Ext.alloc ?_ _)) hq1)); replace hb := Ext.via hb hq1 (by repeat (first | exact Ext.refl _ | refine Ext.drew ?_ | refine Ext.drewN ?_ _ | refine Ext.alloc ?_ _)); obtain ⟨hc, hf, hz⟩ := hb.facts; obtain ⟨k0HXe, k1HXe, k2HXe⟩ := HXe.out; rw [HYC.out]; clear hq1) | (go_loud ((with_reducible refine (rccheck_any s A m c la _ (HA.out.ext (hB0.out.trans (hb.trans (by repeat (first | exact Ext.refl _ | refine Ext.drew ?_ | refine Ext.drewN ?_ _ | refine Ext.alloc ?_ _)))))).mono ?_); rintro e w1 ⟨rfl, hq1⟩; replace hb := Ext.via hb hq1 (by repeat (first | exact Ext.refl _ | refine Ext.drew ?_ | refine Ext.drewN ?_ _ | refine Ext.alloc ?_ _)); obtain ⟨hc, hf, hz⟩ := hb.facts; rw [HC0.out]; clear hq1))))
        | (go_at_call 12; (first | ((with_reducible refine (cparse_x (t := []) HPE.out (by simp) (HG.out.ext (hB0.out.trans (hb.trans (by repeat (first | exact Ext.refl _ | refine Ext.drew ?_ | refine Ext.drewN ?_ _ | refine Ext.alloc ?_ _)))))).mono ?_); rintro e w3 ⟨A3, c3, rfl, hq1⟩; replace hb := Ext.via hb hq1 (by repeat (first | exact Ext.refl _ | refine Ext.drew ?_ | refine Ext.drewN ?_ _ | refine Ext.alloc ?_ _)); obtain ⟨hc, hf, hz⟩ := hb.facts; clear hq1) | (go_loud ((with_reducible refine (cparse_c (t := t) ml HPY.out HPL.out (HG.out.ext (hB0.out.trans (hb.trans (by repeat (first | exact Ext.refl _ | refine Ext.drew ?_ | refine Ext.drewN ?_ _ | refine Ext.alloc ?_ _)))))).mono ?_); rintro e w5 ⟨A5, c5, rfl, hq1, hr⟩; replace hb := Ext.via hb hq1 (by repeat (first | exact Ext.refl _ | refine Ext.drew ?_ | refine Ext.drewN ?_ _ | refine Ext.alloc ?_ _)); obtain ⟨hc, hf, hz⟩ := hb.facts; have HRe := Lib.hid (hr.any.ext ((Ext.refl _).alloc (.cells #[.int .i64 n, .slice A5 ml c5] 24))); have HXe := Lib.hid (BoxAt.new_ w5 n (.slice A5 ml c5) 24); clear hr; clear hq1))))
        | (go_at_call 10; (first | ((with_reducible refine (ctext_c (HRe.out.ext (by repeat (first | exact Ext.refl _ | refine Ext.drew ?_ | refine Ext.drewN ?_ _ | refine Ext.alloc ?_ _))) HYE.out HYV.out (HG.out.ext (hB0.out.trans (hb.trans (by repeat (first | exact Ext.refl _ | refine Ext.drew ?_ | refine Ext.drewN ?_ _ | refine Ext.alloc ?_ _)))))).mono ?_); rintro e w6 ⟨rfl, hq1⟩; replace HRe := Lib.hid (HRe.out.ext (Ext.trans (by repeat (first | exact Ext.refl _ | refine Ext.drew ?_ | refine Ext.drewN ?_ _ | refine Ext.alloc ?_ _)) hq1)); replace HXe := Lib.hid (HXe.out.ext (Ext.trans (by repeat (first | exact Ext.refl _ | refine Ext.drew ?_ | refine Ext.drewN ?_ _ | refine Ext.alloc ?_ _)) hq1)); replace hb := Ext.via hb hq1 (by repeat (first | exact Ext.refl _ | refine Ext.drew ?_ | refine Ext.drewN ?_ _ | refine Ext.alloc ?_ _)); obtain ⟨hc, hf, hz⟩ := hb.facts; obtain ⟨k0HXe, k1HXe, k2HXe⟩ := HXe.out; clear hq1) | (go_loud ((with_reducible refine (ctext_any s A m c la _ (HA.out.ext (hB0.out.trans (hb.trans (by repeat (first | exact Ext.refl _ | refine Ext.drew ?_ | refine Ext.drewN ?_ _ | refine Ext.alloc ?_ _))))) (HG.out.ext (hB0.out.trans (hb.trans (by repeat (first | exact Ext.refl _ | refine Ext.drew ?_ | refine Ext.drewN ?_ _ | refine Ext.alloc ?_ _)))))).mono ?_); rintro e w2 ⟨rfl, hq1⟩; replace hb := Ext.via hb hq1 (by repeat (first | exact Ext.refl _ | refine Ext.drew ?_ | refine Ext.drewN ?_ _ | refine Ext.alloc ?_ _)); obtain ⟨hc, hf, hz⟩ := hb.facts; rw [HTE.out, HTV.out]; clear hq1)))))
      go_ret
      exact ⟨rfl, hB0.out.trans (hb.trans (by repeat (first | exact Ext.refl _ | refine Ext.drew ?_ | refine Ext.drewN ?_ _ | refine Ext.alloc ?_ _)))⟩
  · have hte : ctextE s la = 0 := by rw [ctextE, if_neg (by simpa using h0), if_neg hlen]
    have hpt := chart_back h0 (by omega)
    obtain ⟨T, hT⟩ : ∃ T, chartL s la = T := ⟨_, rfl⟩
    have htv : ctextV s la = T := by rw [ctextV, if_pos hte, hT]
    rw [hT] at hpt
    have HTE := Lib.hid hte
    have HTV := Lib.hid htv
    have HPT := Lib.hid hpt
    clear h0 hlen hte htv hpt hT
    cases hp : chartP t with
    | none =>
      have HPX := Lib.hid hp
      clear hp
      go_enter Tryz.func6, Tryz.ntmps6
      go_wp2_with (first
        | (go_at_call 15; go_loud (((with_reducible refine (calive_any _ (HG.out.ext (hB0.out.trans (hb.trans (by repeat (first | exact Ext.refl _ | refine Ext.drew ?_ | refine Ext.drewN ?_ _ | refine Ext.alloc ?_ _)))))).mono ?_); rintro e w1 ⟨rfl, hq1⟩; replace hb := Ext.via hb hq1 (by repeat (first | exact Ext.refl _ | refine Ext.drew ?_ | refine Ext.drewN ?_ _ | refine Ext.alloc ?_ _)); clear hq1; obtain ⟨hc, hf, hz⟩ := hb.facts)))
        | (go_at_call 9; go_loud (((with_reducible refine (cgreat_any s A m c la _ (HA.out.ext (hB0.out.trans (hb.trans (by repeat (first | exact Ext.refl _ | refine Ext.drew ?_ | refine Ext.drewN ?_ _ | refine Ext.alloc ?_ _)))))).mono ?_); rintro e w1 ⟨rfl, hq1⟩; replace hb := Ext.via hb hq1 (by repeat (first | exact Ext.refl _ | refine Ext.drew ?_ | refine Ext.drewN ?_ _ | refine Ext.alloc ?_ _)); clear hq1; rw [HGA.out]; obtain ⟨hc, hf, hz⟩ := hb.facts)))
        | (go_at_call 16; (first | (go_loud ((with_reducible refine (rccheck_any s A m c la _ (HA.out.ext (hB0.out.trans (hb.trans (by repeat (first | exact Ext.refl _ | refine Ext.drew ?_ | refine Ext.drewN ?_ _ | refine Ext.alloc ?_ _)))))).mono ?_); rintro e w1 ⟨rfl, hq1⟩; replace hb := Ext.via hb hq1 (by repeat (first | exact Ext.refl _ | refine Ext.drew ?_ | refine Ext.drewN ?_ _ | refine Ext.alloc ?_ _)); obtain ⟨hc, hf, hz⟩ := hb.facts; rw [HC0.out]; clear hq1))))
        | (go_at_call 14; (first | (go_loud ((with_reducible refine (rcsame_any s s _ _ m m _ _ la la _ (HA.out.ext (hB0.out.trans (hb.trans (by repeat (first | exact Ext.refl _ | refine Ext.drew ?_ | refine Ext.drewN ?_ _ | refine Ext.alloc ?_ _))))) (HRd.out.ext (by repeat (first | exact Ext.refl _ | refine Ext.drew ?_ | refine Ext.drewN ?_ _ | refine Ext.alloc ?_ _)))).mono ?_); rintro e w4 ⟨rfl, hq1⟩; replace hb := Ext.via hb hq1 (by repeat (first | exact Ext.refl _ | refine Ext.drew ?_ | refine Ext.drewN ?_ _ | refine Ext.alloc ?_ _)); obtain ⟨hc, hf, hz⟩ := hb.facts; rw [sameC_yes]; clear hq1))))
        | (go_at_call 12; (first | ((with_reducible refine (cparse_c (t := T) m HPT.out HL.out (HG.out.ext (hB0.out.trans (hb.trans (by repeat (first | exact Ext.refl _ | refine Ext.drew ?_ | refine Ext.drewN ?_ _ | refine Ext.alloc ?_ _)))))).mono ?_); rintro e w3 ⟨A3, c3, rfl, hq1, hr⟩; replace hb := Ext.via hb hq1 (by repeat (first | exact Ext.refl _ | refine Ext.drew ?_ | refine Ext.drewN ?_ _ | refine Ext.alloc ?_ _)); obtain ⟨hc, hf, hz⟩ := hb.facts; have HRd := Lib.hid (hr.any.ext ((Ext.refl _).alloc (.cells #[.int .i64 s, .slice A3 m c3] 24))); have HXd := Lib.hid (BoxAt.new_ w3 s (.slice A3 m c3) 24); clear hr; clear hq1) | (go_loud ((with_reducible refine (cparse_x (t := t) HPX.out (by omega) (HG.out.ext (hB0.out.trans (hb.trans (by repeat (first | exact Ext.refl _ | refine Ext.drew ?_ | refine Ext.drewN ?_ _ | refine Ext.alloc ?_ _)))))).mono ?_); rintro e w5 ⟨A5, c5, rfl, hq1⟩; replace hb := Ext.via hb hq1 (by repeat (first | exact Ext.refl _ | refine Ext.drew ?_ | refine Ext.drewN ?_ _ | refine Ext.alloc ?_ _)); obtain ⟨hc, hf, hz⟩ := hb.facts; clear hq1))))
        | (go_at_call 10; (first | (go_loud ((with_reducible refine (ctext_c (HA.out.ext (hB0.out.trans (hb.trans (by repeat (first | exact Ext.refl _ | refine Ext.drew ?_ | refine Ext.drewN ?_ _ | refine Ext.alloc ?_ _))))) HTE.out HTV.out (HG.out.ext (hB0.out.trans (hb.trans (by repeat (first | exact Ext.refl _ | refine Ext.drew ?_ | refine Ext.drewN ?_ _ | refine Ext.alloc ?_ _)))))).mono ?_); rintro e w2 ⟨rfl, hq1⟩; replace hb := Ext.via hb hq1 (by repeat (first | exact Ext.refl _ | refine Ext.drew ?_ | refine Ext.drewN ?_ _ | refine Ext.alloc ?_ _)); obtain ⟨hc, hf, hz⟩ := hb.facts; clear hq1)))))
      go_ret
      exact ⟨rfl, hB0.out.trans (hb.trans (by repeat (first | exact Ext.refl _ | refine Ext.drew ?_ | refine Ext.drewN ?_ _ | refine Ext.alloc ?_ _)))⟩
    | some x =>
      obtain ⟨n, l⟩ := x
      obtain ⟨ht, hcn, hcl⟩ := chart_iff.1 hp
      have hye : ctextE n l = 0 := by rw [ctextE, if_neg (by simpa using hcn), if_neg (by rw [hcl]; omega)]
      have HYE := Lib.hid hye
      have HYV := Lib.hid (show ctextV n l = t by rw [ctextV, if_pos hye, hcl])
      have HYC := Lib.hid hcn
      have HPY := Lib.hid hp
      obtain ⟨ml, hml⟩ : ∃ ml, l.length = ml := ⟨_, rfl⟩
      have HPL := Lib.hid hml
      clear hp ht hcn hcl hye hml
      go_enter Tryz.func6, Tryz.ntmps6
      go_wp2_with (first
        | (go_at_call 15; go_loud (((with_reducible refine (calive_any _ (HG.out.ext (hB0.out.trans (hb.trans (by repeat (first | exact Ext.refl _ | refine Ext.drew ?_ | refine Ext.drewN ?_ _ | refine Ext.alloc ?_ _)))))).mono ?_); rintro e w1 ⟨rfl, hq1⟩; replace hb := Ext.via hb hq1 (by repeat (first | exact Ext.refl _ | refine Ext.drew ?_ | refine Ext.drewN ?_ _ | refine Ext.alloc ?_ _)); clear hq1; obtain ⟨hc, hf, hz⟩ := hb.facts)))
        | (go_at_call 9; go_loud (((with_reducible refine (cgreat_any s A m c la _ (HA.out.ext (hB0.out.trans (hb.trans (by repeat (first | exact Ext.refl _ | refine Ext.drew ?_ | refine Ext.drewN ?_ _ | refine Ext.alloc ?_ _)))))).mono ?_); rintro e w1 ⟨rfl, hq1⟩; replace hb := Ext.via hb hq1 (by repeat (first | exact Ext.refl _ | refine Ext.drew ?_ | refine Ext.drewN ?_ _ | refine Ext.alloc ?_ _)); clear hq1; rw [HGA.out]; obtain ⟨hc, hf, hz⟩ := hb.facts)))
        | (go_at_call 16; (first | ((with_reducible refine (rccheck_any n _ ml _ l _ (HRe.out.ext (by repeat (first | exact Ext.refl _ | refine Ext.drew ?_ | refine Ext.drewN ?_ _ | refine Ext.alloc ?_ _)))).mono ?_); rintro e w7 ⟨rfl, hq1⟩; replace HRe := Lib.hid (HRe.out.ext (Ext.trans (by repeat (first | exact Ext.refl _ | refine Ext.drew ?_ | refine Ext.drewN ?_ _ | refine Ext.alloc ?_ _)) hq1)); replace HXe := Lib.hid (HXe.out.ext (Ext.trans (by repeat (first | exact Ext.refl _ | refine Ext.drew ?_ | refine Ext.drewN ?_ _ | refine Ext.alloc ?_ _)) hq1)); replace hb := Ext.via hb hq1 (by repeat (first | exact Ext.refl _ | refine Ext.drew ?_ | refine Ext.drewN ?_ _ | refine Ext.alloc ?_ _)); obtain ⟨hc, hf, hz⟩ := hb.facts; obtain ⟨k0HXe, k1HXe, k2HXe⟩ := HXe.out; rw [HYC.out]; clear hq1) | (go_loud ((with_reducible refine (rccheck_any s A m c la _ (HA.out.ext (hB0.out.trans (hb.trans (by repeat (first | exact Ext.refl _ | refine Ext.drew ?_ | refine Ext.drewN ?_ _ | refine Ext.alloc ?_ _)))))).mono ?_); rintro e w1 ⟨rfl, hq1⟩; replace hb := Ext.via hb hq1 (by repeat (first | exact Ext.refl _ | refine Ext.drew ?_ | refine Ext.drewN ?_ _ | refine Ext.alloc ?_ _)); obtain ⟨hc, hf, hz⟩ := hb.facts; rw [HC0.out]; clear hq1))))
        | (go_at_call 14; (first | (go_loud ((with_reducible refine (rcsame_any s s _ _ m m _ _ la la _ (HA.out.ext (hB0.out.trans (hb.trans (by repeat (first | exact Ext.refl _ | refine Ext.drew ?_ | refine Ext.drewN ?_ _ | refine Ext.alloc ?_ _))))) (HRd.out.ext (by repeat (first | exact Ext.refl _ | refine Ext.drew ?_ | refine Ext.drewN ?_ _ | refine Ext.alloc ?_ _)))).mono ?_); rintro e w4 ⟨rfl, hq1⟩; replace hb := Ext.via hb hq1 (by repeat (first | exact Ext.refl _ | refine Ext.drew ?_ | refine Ext.drewN ?_ _ | refine Ext.alloc ?_ _)); obtain ⟨hc, hf, hz⟩ := hb.facts; rw [sameC_yes]; clear hq1))))
        | (go_at_call 12; (first | ((with_reducible refine (cparse_c (t := T) m HPT.out HL.out (HG.out.ext (hB0.out.trans (hb.trans (by repeat (first | exact Ext.refl _ | refine Ext.drew ?_ | refine Ext.drewN ?_ _ | refine Ext.alloc ?_ _)))))).mono ?_); rintro e w3 ⟨A3, c3, rfl, hq1, hr⟩; replace hb := Ext.via hb hq1 (by repeat (first | exact Ext.refl _ | refine Ext.drew ?_ | refine Ext.drewN ?_ _ | refine Ext.alloc ?_ _)); obtain ⟨hc, hf, hz⟩ := hb.facts; have HRd := Lib.hid (hr.any.ext ((Ext.refl _).alloc (.cells #[.int .i64 s, .slice A3 m c3] 24))); have HXd := Lib.hid (BoxAt.new_ w3 s (.slice A3 m c3) 24); clear hr; clear hq1) | (go_loud ((with_reducible refine (cparse_c (t := t) ml HPY.out HPL.out (HG.out.ext (hB0.out.trans (hb.trans (by repeat (first | exact Ext.refl _ | refine Ext.drew ?_ | refine Ext.drewN ?_ _ | refine Ext.alloc ?_ _)))))).mono ?_); rintro e w5 ⟨A5, c5, rfl, hq1, hr⟩; replace hb := Ext.via hb hq1 (by repeat (first | exact Ext.refl _ | refine Ext.drew ?_ | refine Ext.drewN ?_ _ | refine Ext.alloc ?_ _)); obtain ⟨hc, hf, hz⟩ := hb.facts; have HRe := Lib.hid (hr.any.ext ((Ext.refl _).alloc (.cells #[.int .i64 n, .slice A5 ml c5] 24))); have HXe := Lib.hid (BoxAt.new_ w5 n (.slice A5 ml c5) 24); clear hr; clear hq1))))
        | (go_at_call 10; (first | ((with_reducible refine (ctext_c (HRe.out.ext (by repeat (first | exact Ext.refl _ | refine Ext.drew ?_ | refine Ext.drewN ?_ _ | refine Ext.alloc ?_ _))) HYE.out HYV.out (HG.out.ext (hB0.out.trans (hb.trans (by repeat (first | exact Ext.refl _ | refine Ext.drew ?_ | refine Ext.drewN ?_ _ | refine Ext.alloc ?_ _)))))).mono ?_); rintro e w6 ⟨rfl, hq1⟩; replace HRe := Lib.hid (HRe.out.ext (Ext.trans (by repeat (first | exact Ext.refl _ | refine Ext.drew ?_ | refine Ext.drewN ?_ _ | refine Ext.alloc ?_ _)) hq1)); replace HXe := Lib.hid (HXe.out.ext (Ext.trans (by repeat (first | exact Ext.refl _ | refine Ext.drew ?_ | refine Ext.drewN ?_ _ | refine Ext.alloc ?_ _)) hq1)); replace hb := Ext.via hb hq1 (by repeat (first | exact Ext.refl _ | refine Ext.drew ?_ | refine Ext.drewN ?_ _ | refine Ext.alloc ?_ _)); obtain ⟨hc, hf, hz⟩ := hb.facts; obtain ⟨k0HXe, k1HXe, k2HXe⟩ := HXe.out; clear hq1) | (go_loud ((with_reducible refine (ctext_c (HA.out.ext (hB0.out.trans (hb.trans (by repeat (first | exact Ext.refl _ | refine Ext.drew ?_ | refine Ext.drewN ?_ _ | refine Ext.alloc ?_ _))))) HTE.out HTV.out (HG.out.ext (hB0.out.trans (hb.trans (by repeat (first | exact Ext.refl _ | refine Ext.drew ?_ | refine Ext.drewN ?_ _ | refine Ext.alloc ?_ _)))))).mono ?_); rintro e w2 ⟨rfl, hq1⟩; replace hb := Ext.via hb hq1 (by repeat (first | exact Ext.refl _ | refine Ext.drew ?_ | refine Ext.drewN ?_ _ | refine Ext.alloc ?_ _)); obtain ⟨hc, hf, hz⟩ := hb.facts; clear hq1)))))
      go_ret
      exact ⟨rfl, hB0.out.trans (hb.trans (by repeat (first | exact Ext.refl _ | refine Ext.drew ?_ | refine Ext.drewN ?_ _ | refine Ext.alloc ?_ _)))⟩

set_option maxRecDepth 100000 in
theorem chartBack_lifted (os : Os) (started : os.Started) (H : Type) (enc : TypeId × Value → H) :
    ReturnsInHanded {} Tryz.checked os 6 .any (fun w args => (Rows.chartBackSpec.pre enc Tryz.prog Tryz.f6 [] false w args ∧ laidMetH Tryz.prog [("math/bits.deBruijn32tab", Rows.laid_math_bits_deBruijn32tab), ("math/bits.deBruijn64tab", Rows.laid_math_bits_deBruijn64tab), ("internal/strconv.uint64pow10", Rows.laid_internal_strconv_uint64pow10), ("unicode/utf8.acceptRanges", Rows.laid_unicode_utf8_acceptRanges), ("strconv.ErrRange", Rows.laid_strconv_ErrRange), ("strconv.ErrSyntax", Rows.laid_strconv_ErrSyntax), ("unicode/utf8.first", Rows.laid_unicode_utf8_first)] w) ∧ sizedMet enc Tryz.prog Tryz.f6 (OpenSpec.ofChange Rows.chartBackSpec) false w args)
      (Rows.chartBackSpec.post enc Tryz.prog Tryz.f6 false true false false) := by
  refine returns_laid (C := Tryz.checked) (X := fun w _ => laidMetH Tryz.prog [("math/bits.deBruijn32tab", Rows.laid_math_bits_deBruijn32tab), ("math/bits.deBruijn64tab", Rows.laid_math_bits_deBruijn64tab), ("internal/strconv.uint64pow10", Rows.laid_internal_strconv_uint64pow10), ("unicode/utf8.acceptRanges", Rows.laid_unicode_utf8_acceptRanges), ("strconv.ErrRange", Rows.laid_strconv_ErrRange), ("strconv.ErrSyntax", Rows.laid_strconv_ErrSyntax), ("unicode/utf8.first", Rows.laid_unicode_utf8_first)] w) (fun _ _ _ hh h => h.of_heap hh) own started (by kernel_rfl) Tryz.func6
    (ChangeSpec.witness_shaped (enc := enc) (C := Tryz.checked) (os := os) (X := fun w _ => laidMetH Tryz.prog [("math/bits.deBruijn32tab", Rows.laid_math_bits_deBruijn32tab), ("math/bits.deBruijn64tab", Rows.laid_math_bits_deBruijn64tab), ("internal/strconv.uint64pow10", Rows.laid_internal_strconv_uint64pow10), ("unicode/utf8.acceptRanges", Rows.laid_unicode_utf8_acceptRanges), ("strconv.ErrRange", Rows.laid_strconv_ErrRange), ("strconv.ErrSyntax", Rows.laid_strconv_ErrSyntax), ("unicode/utf8.first", Rows.laid_unicode_utf8_first)] w) false (World.laidAll Tryz.prog os [("math/bits.deBruijn32tab", Rows.laid_math_bits_deBruijn32tab), ("math/bits.deBruijn64tab", Rows.laid_math_bits_deBruijn64tab), ("internal/strconv.uint64pow10", Rows.laid_internal_strconv_uint64pow10), ("unicode/utf8.acceptRanges", Rows.laid_unicode_utf8_acceptRanges), ("strconv.ErrRange", Rows.laid_strconv_ErrRange), ("strconv.ErrSyntax", Rows.laid_strconv_ErrSyntax), ("unicode/utf8.first", Rows.laid_unicode_utf8_first)]) #[.agg #[.int .i64 0, .slice none 0 0], .string ⟨#[]⟩] 8 (World.laidAll_os _ _ _)
      (World.shaped_of_ZipB (by kernel_rfl) (by kernel_rfl)) (by kernel_rfl) (by kernel_rfl) (by kernel_rfl)
      (by rw [MakeChecks.laidMetH_plain _ _ _ (by kernel_rfl)]; exact laidMet_laidAll _ (by kernel_rfl) (by kernel_rfl))) ?_
  intro W base args ds gs before hval0 hW hL hsh
  have hval : ∀ (j : Nat) t v, Tryz.f6.params[j]? = some t → args[j]? = some v → Value.okWide Tryz.prog W .any base t v := hval0
  have hW' := hW
  obtain ⟨p, q, hA0, hV, rfl, hfz, hnd⟩ := hW
  have hA : DataW.TrodAll enc Tryz.prog W 0 (fun _ => true) true Tryz.f6.params.toList args.toList ds p := hA0
  rw [Tryz.params6] at hA hval
  obtain ⟨v0, vs0, d0, ds0, p0, q0, hargs, rfl, rfl, h0, r0⟩ := trodAll_cons hA
  obtain ⟨v1, vs1, d1, ds1, p1, q1, rfl, rfl, rfl, h1, r1⟩ := trodAll_cons r0
  obtain ⟨rfl, rfl, rfl⟩ := trodAll_nil r1
  obtain rfl : args = #[v0, v1] := by cases args; simp_all
  obtain ⟨rfl, rfl⟩ := trodVars_none hV
  obtain ⟨sa, Aa, na, ca, a, rfl, hia⟩ := open_chart_arg (hval 0 24 v0 rfl rfl) h0
  obtain ⟨tB, rfl, -, -, -⟩ := ChangeMaps.open_string Tryz.underlying9 (hval 1 9 v1 rfl rfl) h1
  obtain ⟨t, rfl⟩ : ∃ l : List UInt8, tB = ⟨l.toArray⟩ := ⟨tB.data.toList, by simp⟩
  rw [MakeChecks.laidMetH_plain _ _ _ (by kernel_rfl)] at hL
  have hG := glob_of hL hsh
  refine (chartBack_walk sa na ca Aa a t W hia hG).mono fun e W' ⟨he, hg⟩ => ?_
  subst he
  exact ⟨_, rfl, law_post laid_out rfl Tryz.underlying4 (by kernel_rfl) rfl hW' rfl hg⟩

theorem chartBack_holds : Rows.ChartBackSaid :=
  OpenClaim.holds_of_wide 6 Tryz.f6 rfl rfl rfl rfl rfl rfl rfl ⟨rfl, rfl, rfl, rfl, rfl⟩ rfl rfl rfl rfl rfl (by kernel_rfl) Tryz.func6 (by kernel_rfl)
    (of_decide_eq_true (by kernel_rfl)) (by unfold Func.isWrapper; first | (rw [if_pos (by decide +kernel)]; kernel_rfl) | (rw [if_neg (by decide +kernel)]; exact ⟨rfl, rfl⟩))
    (fun os started H enc _ => chartBack_lifted os started H enc)

theorem chartBack_card : Rows.ChartBackCardSaid :=
  Claim7.holds_tied_plain_at .later [] [.data, .data, .data, .data, .sentinel, .sentinel, .pinned] true (true, "39bfa126c88c4eab7a3d93e3b80aed671d612458207461505dfa1022f9959405") true
    chartBack_holds (fun _ h => by cases h) (by kernel_rfl) (fun _ h => by cases h) chartBack_row_tie rfl ⟨rfl, rfl⟩ (by kernel_rfl) rfl
    (fun f fn hf hfn => by
      obtain rfl : f = 6 := Option.some.inj ((show Tryz.prog.funcNamed "raddle/raddlelaw26.ChartBack" = some 6 by kernel_rfl).symm.trans hf) |>.symm
      obtain rfl : fn = Tryz.f6 := (Option.some.inj (Tryz.func6.symm.trans hfn)).symm
      exact ⟨by kernel_rfl, fun j t ht => by
        rw [Tryz.params6] at ht
        have hm : t ∈ [24, 9] := by simpa using Array.mem_of_getElem? ht
        have hall : ([24, 9].all fun u => !Tryz.prog.wantsStandIn u) = true := by kernel_rfl
        exact (show Tryz.prog.wantsStandIn t = false by simpa using List.all_eq_true.1 hall t hm)⟩)
    (by kernel_rfl)
end Go.Proofs.YtjjhoonkooihjaaGreatDoor
