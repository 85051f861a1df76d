/- The faces of the other side of a chart are the other sides of its faces, the counts are the same, and the other side of the other side is the chart; for any chart of at most 12 rows of at most 60 cells, or too many. -/
import Derived.Test.YtjjhoonkooihjaaGreatDoorG16
import Derived.Test.YtjjhoonkooihjaaGreatDoorG12
import Derived.Test.YtjjhoonkooihjaaGreatDoorG04
import Derived.Test.YtjjhoonkooihjaaGreatDoorCards
namespace Go.Proofs.YtjjhoonkooihjaaGreatDoor
set_option maxRecDepth 100000
set_option maxRecDepth 100000
open Go.ChangeShapes Go.WideShapes Go.ChangeAt Go.RowKit Go.Joins
set_option maxHeartbeats 8000000 in
theorem chartFlips_walk (s : Int) (m c : Nat) (A : Option Addr) (la : List Ro) (w : World) (ha : Rws w (fun _ => True) A m la) (hg : Glob w) :
    Calls Tryz.prog 5 #[.agg #[.int .i64 s, .slice A m c]] w fun e w' => e = .returned (.bool true) ∧ Ext w w' := by
  have HA := Lib.hid ha
  have HG := Lib.hid hg
  have HL := Lib.hid ha.len
  clear ha hg
  have hB0 := Lib.hid (show Ext w (w.alloc (.cells #[.int .i64 s, .slice A m c] 24)) from (Ext.refl _).alloc _)
  have hb : Ext (w.alloc (.cells #[.int .i64 s, .slice A m c] 24)) (w.alloc (.cells #[.int .i64 s, .slice A m c] 24)) := Ext.refl _
  obtain ⟨hc, hf, hz⟩ := hb.facts
  cases hga : greatC la
  case true =>
    have HGA := Lib.hid hga
    clear hga
    go_enter Tryz.func5, Tryz.ntmps5
    go_wp2_with (first
      | (go_at_call 15; go_loud (((with_reducible refine (calive_any _ (HG.out.ext (hB0.out.trans (hb.trans (by repeat (first | exact Ext.refl _ | refine Ext.drew ?_ | refine Ext.drewN ?_ _ | refine Ext.alloc ?_ _)))))).mono ?_); rintro e w1 ⟨rfl, hq1⟩; replace hb := Ext.via hb hq1 (by repeat (first | exact Ext.refl _ | refine Ext.drew ?_ | refine Ext.drewN ?_ _ | refine Ext.alloc ?_ _)); clear hq1; obtain ⟨hc, hf, hz⟩ := hb.facts)))
      | (go_at_call 9; go_loud (((with_reducible refine (cgreat_any s A m c la _ (HA.out.ext (hB0.out.trans (hb.trans (by repeat (first | exact Ext.refl _ | refine Ext.drew ?_ | refine Ext.drewN ?_ _ | refine Ext.alloc ?_ _)))))).mono ?_); rintro e w1 ⟨rfl, hq1⟩; replace hb := Ext.via hb hq1 (by repeat (first | exact Ext.refl _ | refine Ext.drew ?_ | refine Ext.drewN ?_ _ | refine Ext.alloc ?_ _)); clear hq1; rw [HGA.out]; obtain ⟨hc, hf, hz⟩ := hb.facts))))
    go_ret
    exact ⟨rfl, hB0.out.trans hb⟩
  have HGA := Lib.hid hga
  clear hga
  by_cases h0 : chkC s la = 0
  case neg =>
    obtain ⟨x, hx⟩ : ∃ x, chkC s la = x := ⟨_, rfl⟩
    have HC0 := Lib.hid hx
    have hne : (x != 0) = true := by rw [hx] at h0; simpa using h0
    clear h0 hx
    go_enter Tryz.func5, Tryz.ntmps5
    go_wp2_with (first
      | (go_at_call 15; go_loud (((with_reducible refine (calive_any _ (HG.out.ext (hB0.out.trans (hb.trans (by repeat (first | exact Ext.refl _ | refine Ext.drew ?_ | refine Ext.drewN ?_ _ | refine Ext.alloc ?_ _)))))).mono ?_); rintro e w1 ⟨rfl, hq1⟩; replace hb := Ext.via hb hq1 (by repeat (first | exact Ext.refl _ | refine Ext.drew ?_ | refine Ext.drewN ?_ _ | refine Ext.alloc ?_ _)); clear hq1; obtain ⟨hc, hf, hz⟩ := hb.facts)))
      | (go_at_call 9; go_loud (((with_reducible refine (cgreat_any s A m c la _ (HA.out.ext (hB0.out.trans (hb.trans (by repeat (first | exact Ext.refl _ | refine Ext.drew ?_ | refine Ext.drewN ?_ _ | refine Ext.alloc ?_ _)))))).mono ?_); rintro e w1 ⟨rfl, hq1⟩; replace hb := Ext.via hb hq1 (by repeat (first | exact Ext.refl _ | refine Ext.drew ?_ | refine Ext.drewN ?_ _ | refine Ext.alloc ?_ _)); clear hq1; rw [HGA.out]; obtain ⟨hc, hf, hz⟩ := hb.facts)))
      | (go_at_call 16; go_loud (((with_reducible refine (rccheck_any s A m c la _ (HA.out.ext (hB0.out.trans (hb.trans (by repeat (first | exact Ext.refl _ | refine Ext.drew ?_ | refine Ext.drewN ?_ _ | refine Ext.alloc ?_ _)))))).mono ?_); rintro e w1 ⟨rfl, hq1⟩; replace hb := Ext.via hb hq1 (by repeat (first | exact Ext.refl _ | refine Ext.drew ?_ | refine Ext.drewN ?_ _ | refine Ext.alloc ?_ _)); clear hq1; rw [HC0.out]; obtain ⟨hc, hf, hz⟩ := hb.facts))))
    go_ret
    exact ⟨rfl, hB0.out.trans hb⟩
  have HC0 := Lib.hid h0
  have hm9 : m ≤ 100 := by rw [← HL.out]; exact (chkC_ok h0).1
  have HL1 := Lib.hid (show la.length + 1 = m + 1 by rw [HL.out])
  have hff := flip_flip la
  have hfc := (flip_chk s la).trans h0
  have hfn := flip_cnt s la
  have hfl := flip_len la
  have HGD := Lib.hid (fun (k : Nat) (h : k < la.length) => flip_getD h)
  have HKK := Lib.hid (fun (k : Nat) (h : k < la.length) => (row_ok h0 h).2.2)
  have HKM := Lib.hid (fun (k : Nat) (h : k < la.length) => (row_ok h0 h).1)
  obtain ⟨FL, hFL⟩ : ∃ FL, flipL la = FL := ⟨_, rfl⟩
  obtain ⟨N, hN⟩ : ∃ N, cntC s la = N := ⟨_, rfl⟩
  rw [hFL] at hff hfc hfn hfl HGD
  rw [hN] at hfn
  have HFL := Lib.hid hFL
  have HFF := Lib.hid hff
  have HFC := Lib.hid hfc
  have HFN := Lib.hid hfn
  have HCN := Lib.hid hN
  have HL2 := Lib.hid (show FL.length + 1 = m + 1 by rw [hfl, HL.out])
  have HL3 := Lib.hid hfl
  clear h0 hff hfc hfn hfl hFL hN
  go_enter Tryz.func5, Tryz.ntmps5
  go_wp2_with (first
    | (go_at_call 15; go_loud (((with_reducible refine (calive_any _ (HG.out.ext (hB0.out.trans (hb.trans (by repeat (first | exact Ext.refl _ | refine Ext.drew ?_ | refine Ext.drewN ?_ _ | refine Ext.alloc ?_ _)))))).mono ?_); rintro e w1 ⟨rfl, hq1⟩; replace hb := Ext.via hb hq1 (by repeat (first | exact Ext.refl _ | refine Ext.drew ?_ | refine Ext.drewN ?_ _ | refine Ext.alloc ?_ _)); clear hq1; obtain ⟨hc, hf, hz⟩ := hb.facts)))
    | (go_at_call 9; go_loud (((with_reducible refine (cgreat_any s A m c la _ (HA.out.ext (hB0.out.trans (hb.trans (by repeat (first | exact Ext.refl _ | refine Ext.drew ?_ | refine Ext.drewN ?_ _ | refine Ext.alloc ?_ _)))))).mono ?_); rintro e w1 ⟨rfl, hq1⟩; replace hb := Ext.via hb hq1 (by repeat (first | exact Ext.refl _ | refine Ext.drew ?_ | refine Ext.drewN ?_ _ | refine Ext.alloc ?_ _)); clear hq1; rw [HGA.out]; obtain ⟨hc, hf, hz⟩ := hb.facts)))
    | (go_at_call 16; go_loud (((with_reducible refine (rccheck_any s A m c la _ (HA.out.ext (hB0.out.trans (hb.trans (by repeat (first | exact Ext.refl _ | refine Ext.drew ?_ | refine Ext.drewN ?_ _ | refine Ext.alloc ?_ _)))))).mono ?_); rintro e w1 ⟨rfl, hq1⟩; replace hb := Ext.via hb hq1 (by repeat (first | exact Ext.refl _ | refine Ext.drew ?_ | refine Ext.drewN ?_ _ | refine Ext.alloc ?_ _)); clear hq1; rw [HC0.out]; obtain ⟨hc, hf, hz⟩ := hb.facts)))
    | (go_at_call 21; (first | ((with_reducible refine (cflip_c (HRo.out.ext (by repeat (first | exact Ext.refl _ | refine Ext.drew ?_ | refine Ext.drewN ?_ _ | refine Ext.alloc ?_ _))) HFC.out HFF.out).mono ?_); rintro e w3 ⟨A3, c3, rfl, hq1, hr⟩; replace HRo := Lib.hid (HRo.out.ext (Ext.trans (by repeat (first | exact Ext.refl _ | refine Ext.drew ?_ | refine Ext.drewN ?_ _ | refine Ext.alloc ?_ _)) hq1)); replace HXo := Lib.hid (HXo.out.ext (Ext.trans (by repeat (first | exact Ext.refl _ | refine Ext.drew ?_ | refine Ext.drewN ?_ _ | refine Ext.alloc ?_ _)) hq1)); replace hb := Ext.via hb hq1 (by repeat (first | exact Ext.refl _ | refine Ext.drew ?_ | refine Ext.drewN ?_ _ | refine Ext.alloc ?_ _)); obtain ⟨hc, hf, hz⟩ := hb.facts; obtain ⟨k0HXo, k1HXo, k2HXo⟩ := HXo.out; have HRb := Lib.hid (hr.any.ext ((Ext.refl _).alloc (.cells #[.int .i64 s, .slice A3 m c3] 24))); have HXb := Lib.hid (BoxAt.new_ w3 s (.slice A3 m c3) 24); clear hr; clear hq1) | (go_loud ((with_reducible refine (cflip_c (HA.out.ext (hB0.out.trans (hb.trans (by repeat (first | exact Ext.refl _ | refine Ext.drew ?_ | refine Ext.drewN ?_ _ | refine Ext.alloc ?_ _))))) HC0.out HFL.out).mono ?_); rintro e w2 ⟨A2, c2, rfl, hq1, hr⟩; replace hb := Ext.via hb hq1 (by repeat (first | exact Ext.refl _ | refine Ext.drew ?_ | refine Ext.drewN ?_ _ | refine Ext.alloc ?_ _)); obtain ⟨hc, hf, hz⟩ := hb.facts; have HRo := Lib.hid (hr.any.ext ((Ext.refl _).alloc (.cells #[.int .i64 s, .slice A2 m c2] 24))); have HXo := Lib.hid (BoxAt.new_ w2 s (.slice A2 m c2) 24); clear hr; clear hq1))))
    | (go_at_call 17; (first | ((with_reducible refine (ccounts_c (m + 1) (HRo.out.ext (by repeat (first | exact Ext.refl _ | refine Ext.drew ?_ | refine Ext.drewN ?_ _ | refine Ext.alloc ?_ _))) HFC.out HFN.out HL2.out).mono ?_); rintro e w5 ⟨A5, c5, rfl, hq1, hv⟩; replace HRo := Lib.hid (HRo.out.ext (Ext.trans (by repeat (first | exact Ext.refl _ | refine Ext.drew ?_ | refine Ext.drewN ?_ _ | refine Ext.alloc ?_ _)) hq1)); replace HXo := Lib.hid (HXo.out.ext (Ext.trans (by repeat (first | exact Ext.refl _ | refine Ext.drew ?_ | refine Ext.drewN ?_ _ | refine Ext.alloc ?_ _)) hq1)); replace HRb := Lib.hid (HRb.out.ext (Ext.trans (by repeat (first | exact Ext.refl _ | refine Ext.drew ?_ | refine Ext.drewN ?_ _ | refine Ext.alloc ?_ _)) hq1)); replace HXb := Lib.hid (HXb.out.ext (Ext.trans (by repeat (first | exact Ext.refl _ | refine Ext.drew ?_ | refine Ext.drewN ?_ _ | refine Ext.alloc ?_ _)) hq1)); replace HN1 := Lib.hid (HN1.out.ext (Ext.trans (by repeat (first | exact Ext.refl _ | refine Ext.drew ?_ | refine Ext.drewN ?_ _ | refine Ext.alloc ?_ _)) hq1)); replace hb := Ext.via hb hq1 (by repeat (first | exact Ext.refl _ | refine Ext.drew ?_ | refine Ext.drewN ?_ _ | refine Ext.alloc ?_ _)); obtain ⟨hc, hf, hz⟩ := hb.facts; obtain ⟨k0HXo, k1HXo, k2HXo⟩ := HXo.out; obtain ⟨k0HXb, k1HXb, k2HXb⟩ := HXb.out; have HN2 := Lib.hid hv; clear hv; clear hq1) | (go_loud ((with_reducible refine (ccounts_c (m + 1) (HA.out.ext (hB0.out.trans (hb.trans (by repeat (first | exact Ext.refl _ | refine Ext.drew ?_ | refine Ext.drewN ?_ _ | refine Ext.alloc ?_ _))))) HC0.out HCN.out HL1.out).mono ?_); rintro e w4 ⟨A4, c4, rfl, hq1, hv⟩; replace HRo := Lib.hid (HRo.out.ext (Ext.trans (by repeat (first | exact Ext.refl _ | refine Ext.drew ?_ | refine Ext.drewN ?_ _ | refine Ext.alloc ?_ _)) hq1)); replace HXo := Lib.hid (HXo.out.ext (Ext.trans (by repeat (first | exact Ext.refl _ | refine Ext.drew ?_ | refine Ext.drewN ?_ _ | refine Ext.alloc ?_ _)) hq1)); replace HRb := Lib.hid (HRb.out.ext (Ext.trans (by repeat (first | exact Ext.refl _ | refine Ext.drew ?_ | refine Ext.drewN ?_ _ | refine Ext.alloc ?_ _)) hq1)); replace HXb := Lib.hid (HXb.out.ext (Ext.trans (by repeat (first | exact Ext.refl _ | refine Ext.drew ?_ | refine Ext.drewN ?_ _ | refine Ext.alloc ?_ _)) hq1)); replace hb := Ext.via hb hq1 (by repeat (first | exact Ext.refl _ | refine Ext.drew ?_ | refine Ext.drewN ?_ _ | refine Ext.alloc ?_ _)); obtain ⟨hc, hf, hz⟩ := hb.facts; obtain ⟨k0HXo, k1HXo, k2HXo⟩ := HXo.out; obtain ⟨k0HXb, k1HXb, k2HXb⟩ := HXb.out; have HN1 := Lib.hid hv; clear hv; clear hq1))))
    | (go_at_call 14; (first | (go_loud ((with_reducible refine (rcsame_any s s _ _ m m _ _ la la _ (HRb.out.ext (by repeat (first | exact Ext.refl _ | refine Ext.drew ?_ | refine Ext.drewN ?_ _ | refine Ext.alloc ?_ _))) (HA.out.ext (hB0.out.trans (hb.trans (by repeat (first | exact Ext.refl _ | refine Ext.drew ?_ | refine Ext.drewN ?_ _ | refine Ext.alloc ?_ _)))))).mono ?_); rintro e w6 ⟨rfl, hq1⟩; replace HRo := Lib.hid (HRo.out.ext (Ext.trans (by repeat (first | exact Ext.refl _ | refine Ext.drew ?_ | refine Ext.drewN ?_ _ | refine Ext.alloc ?_ _)) hq1)); replace HXo := Lib.hid (HXo.out.ext (Ext.trans (by repeat (first | exact Ext.refl _ | refine Ext.drew ?_ | refine Ext.drewN ?_ _ | refine Ext.alloc ?_ _)) hq1)); replace HRb := Lib.hid (HRb.out.ext (Ext.trans (by repeat (first | exact Ext.refl _ | refine Ext.drew ?_ | refine Ext.drewN ?_ _ | refine Ext.alloc ?_ _)) hq1)); replace HXb := Lib.hid (HXb.out.ext (Ext.trans (by repeat (first | exact Ext.refl _ | refine Ext.drew ?_ | refine Ext.drewN ?_ _ | refine Ext.alloc ?_ _)) hq1)); replace HN1 := Lib.hid (HN1.out.ext (Ext.trans (by repeat (first | exact Ext.refl _ | refine Ext.drew ?_ | refine Ext.drewN ?_ _ | refine Ext.alloc ?_ _)) hq1)); replace HN2 := Lib.hid (HN2.out.ext (Ext.trans (by repeat (first | exact Ext.refl _ | refine Ext.drew ?_ | refine Ext.drewN ?_ _ | refine Ext.alloc ?_ _)) hq1)); replace hb := Ext.via hb hq1 (by repeat (first | exact Ext.refl _ | refine Ext.drew ?_ | refine Ext.drewN ?_ _ | refine Ext.alloc ?_ _)); obtain ⟨hc, hf, hz⟩ := hb.facts; obtain ⟨k0HXo, k1HXo, k2HXo⟩ := HXo.out; obtain ⟨k0HXb, k1HXb, k2HXb⟩ := HXb.out; rw [sameC_yes]; clear hq1))))
    | (go_at_call 22; (first | (go_loud ((with_reducible refine (sameints_any (m + 1) (m + 1) _ _ _ _ N _ (HN1.out.ext (by repeat (first | exact Ext.refl _ | refine Ext.drew ?_ | refine Ext.drewN ?_ _ | refine Ext.alloc ?_ _))) (HN2.out.ext (by repeat (first | exact Ext.refl _ | refine Ext.drew ?_ | refine Ext.drewN ?_ _ | refine Ext.alloc ?_ _))) (by unfold maxLen; omega)).mono ?_); rintro e w7 ⟨rfl, hq1⟩; replace HRo := Lib.hid (HRo.out.ext (Ext.trans (by repeat (first | exact Ext.refl _ | refine Ext.drew ?_ | refine Ext.drewN ?_ _ | refine Ext.alloc ?_ _)) hq1)); replace HXo := Lib.hid (HXo.out.ext (Ext.trans (by repeat (first | exact Ext.refl _ | refine Ext.drew ?_ | refine Ext.drewN ?_ _ | refine Ext.alloc ?_ _)) hq1)); replace HRb := Lib.hid (HRb.out.ext (Ext.trans (by repeat (first | exact Ext.refl _ | refine Ext.drew ?_ | refine Ext.drewN ?_ _ | refine Ext.alloc ?_ _)) hq1)); replace HXb := Lib.hid (HXb.out.ext (Ext.trans (by repeat (first | exact Ext.refl _ | refine Ext.drew ?_ | refine Ext.drewN ?_ _ | refine Ext.alloc ?_ _)) hq1)); replace hb := Ext.via hb hq1 (by repeat (first | exact Ext.refl _ | refine Ext.drew ?_ | refine Ext.drewN ?_ _ | refine Ext.alloc ?_ _)); obtain ⟨hc, hf, hz⟩ := hb.facts; obtain ⟨k0HXo, k1HXo, k2HXo⟩ := HXo.out; obtain ⟨k0HXb, k1HXb, k2HXb⟩ := HXb.out; clear hq1)))))
  have HE7 := Lib.hid hb
  obtain ⟨hc7, hf7, hz7⟩ := HE7.out.facts
  have m0 : w7.cell? ⟨w.heap.size, 0, none⟩ = some (.int .i64 s) := by rw [hc7 _ _ (by simp only [World.size_alloc]; omega)]; simp [go_sem]
  have m1 : w7.cell? ⟨w.heap.size, 1, none⟩ = some (.slice A m c) := by rw [hc7 _ _ (by simp only [World.size_alloc]; omega)]; simp [go_sem]
  have z0 : w.heap.size < w7.heap.size := hz7 _ (by simp only [World.size_alloc]; omega)
  clear hc7 hf7 hz7 hb
  go_loopw [12] (fun i wr => ∃ k : Nat, i = .int .i64 k ∧ k ≤ m ∧ Hid (Ext w7 wr)) (fun i _ => m - (intOf i).toNat)
  case atStart => exact ⟨0, rfl, by omega, Lib.hid (by repeat (first | exact Ext.refl _ | assumption | refine Ext.alloc ?_ _ | refine Ext.drew ?_ | refine Ext.drewN ?_ _ | refine Ext.trans ?_ (by assumption)))⟩
  case round =>
    obtain ⟨k, rfl, hk, HE1⟩ := hrel
    have HAW := Lib.hid (HA.out.ext (hB0.out.trans (HE7.out.trans HE1.out)))
    have HOW := Lib.hid (HRo.out.ext HE1.out)
    obtain ⟨hc8, hf8, hz8⟩ := HE1.out.facts
    have m2 := (hc8 _ 0 z0).trans m0
    have m3 := (hc8 _ 1 z0).trans m1
    have z2 := hz8 _ z0
    obtain ⟨x0, x1, x2⟩ := HXo.out.ext HE1.out
    have HEW := Lib.hid (HE7.out.trans HE1.out)
    by_cases hlt : k < m
    · have hkl : k < la.length := by rw [HL.out]; exact hlt
      have HKL := Lib.hid hkl
      have HKL2 := Lib.hid (show k < FL.length by rw [HL3.out]; exact hkl)
      have hse := seen_uses (HKK.out k hkl)
      have hfs := flip_seen (HKK.out k hkl)
      rw [← HGD.out k hkl] at hfs
      have hlen := HKM.out k hkl
      have hl2 : (seenL (la.getD k ro0).back (la.getD k ro0).cells).length = (la.getD k ro0).cells.length := by
        cases (la.getD k ro0).back
        · rfl
        · exact turnL_len _
      obtain ⟨F1, hF1⟩ : ∃ F, seenL (la.getD k ro0).back (la.getD k ro0).cells = F := ⟨_, rfl⟩
      obtain ⟨F2, hF2⟩ : ∃ F, seenL (FL.getD k ro0).back (FL.getD k ro0).cells = F := ⟨_, rfl⟩
      rw [hF1] at hse hfs hl2
      rw [hF2] at hfs
      have HF1 := Lib.hid hF1
      have HF2 := Lib.hid hF2
      have HT1 := Lib.hid hfs.symm
      have HE1' := Lib.hid HE1.out
      have HFL9 := Lib.hid (show F2.length = F1.length by rw [hfs, turnL_len])
      have HFM := Lib.hid (show F1.length ≤ 200 by omega)
      have HW := Lib.hid (Ext.refl wr)
      replace HE1 := Lib.hid hse.1
      have q1 : (k : Int) < (m : Int) := by omega
      clear hkl hse hfs hlen hl2 hF1 hF2 hc8 hf8 hz8 m0 m1
      go_wp2_with (first
        | (go_at_call 20; (first | ((with_reducible refine (cface_c (k : Int) k _ rfl (HAW.out.ext (HW.out.trans (by repeat (first | exact Ext.refl _ | refine Ext.drew ?_ | refine Ext.drewN ?_ _ | refine Ext.alloc ?_ _)))) HC0.out HKL.out HF1.out rfl).mono ?_); rintro e w8 ⟨A8, c8, rfl, hq, hv⟩; replace HW := Lib.hid (HW.out.trans (Ext.trans (by repeat (first | exact Ext.refl _ | refine Ext.drew ?_ | refine Ext.drewN ?_ _ | refine Ext.alloc ?_ _)) hq)); obtain ⟨g1, g2, g3⟩ := HW.out.facts; have HV8 := Lib.hid hv; clear hv; clear hq) | (go_loud ((with_reducible refine (cface_c (k : Int) k F1.length rfl (HOW.out.ext (HW.out.trans (by repeat (first | exact Ext.refl _ | refine Ext.drew ?_ | refine Ext.drewN ?_ _ | refine Ext.alloc ?_ _)))) HFC.out HKL2.out HF2.out HFL9.out).mono ?_); rintro e w9 ⟨A9, c9, rfl, hq, hv⟩; replace HW := Lib.hid (HW.out.trans (Ext.trans (by repeat (first | exact Ext.refl _ | refine Ext.drew ?_ | refine Ext.drewN ?_ _ | refine Ext.alloc ?_ _)) hq)); obtain ⟨g1, g2, g3⟩ := HW.out.facts; replace HV8 := Lib.hid (HV8.out.ext (Ext.trans (by repeat (first | exact Ext.refl _ | refine Ext.drew ?_ | refine Ext.drewN ?_ _ | refine Ext.alloc ?_ _)) hq)); have HV9 := Lib.hid hv; clear hv; clear hq))))
        | (go_at_call 23; (first | (go_loud ((with_reducible refine (turn_c F1.length (HV8.out.ext (by repeat (first | exact Ext.refl _ | refine Ext.drew ?_ | refine Ext.drewN ?_ _ | refine Ext.alloc ?_ _))) HE1.out HT1.out HFL9.out).mono ?_); rintro e w10 ⟨A10, c10, rfl, hq, hv⟩; replace HW := Lib.hid (HW.out.trans (Ext.trans (by repeat (first | exact Ext.refl _ | refine Ext.drew ?_ | refine Ext.drewN ?_ _ | refine Ext.alloc ?_ _)) hq)); obtain ⟨g1, g2, g3⟩ := HW.out.facts; replace HV9 := Lib.hid (HV9.out.ext (Ext.trans (by repeat (first | exact Ext.refl _ | refine Ext.drew ?_ | refine Ext.drewN ?_ _ | refine Ext.alloc ?_ _)) hq)); have HV10 := Lib.hid hv; clear hv; clear hq))))
        | (go_at_call 24; (first | (go_loud ((with_reducible refine (rsame_any F1.length F1.length _ _ _ _ F2 F2 _ (HV9.out.ext (by repeat (first | exact Ext.refl _ | refine Ext.drew ?_ | refine Ext.drewN ?_ _ | refine Ext.alloc ?_ _))) (HV10.out.ext (by repeat (first | exact Ext.refl _ | refine Ext.drew ?_ | refine Ext.drewN ?_ _ | refine Ext.alloc ?_ _))) (by have := HFM.out; unfold maxLen; omega)).mono ?_); rintro e w11 ⟨rfl, hq⟩; replace HW := Lib.hid (HW.out.trans (Ext.trans (by repeat (first | exact Ext.refl _ | refine Ext.drew ?_ | refine Ext.drewN ?_ _ | refine Ext.alloc ?_ _)) hq)); obtain ⟨g1, g2, g3⟩ := HW.out.facts; rw [show decide (F2 = F2) = true from decide_eq_true rfl]; clear hq)))))
      go_roundw
      case rel => exact ⟨k + 1, by go_num, by omega, Lib.hid (HE1'.out.trans HW.out)⟩
      case measure => simp [intOf]; omega
    · obtain rfl : k = m := by omega
      clear hc8 hf8 hz8 m0 m1
      go_wp2_with fail
      go_ret
      exact ⟨rfl, hB0.out.trans HEW.out⟩

set_option maxRecDepth 100000 in
theorem chartFlips_lifted (os : Os) (started : os.Started) (H : Type) (enc : TypeId × Value → H) :
    ReturnsInHanded {} Tryz.checked os 5 .any (fun w args => (Rows.chartFlipsSpec.pre enc Tryz.prog Tryz.f5 [] false w args ∧ laidMetH Tryz.prog [("math/bits.deBruijn32tab", Rows.laid_math_bits_deBruijn32tab), ("math/bits.deBruijn64tab", Rows.laid_math_bits_deBruijn64tab), ("internal/strconv.uint64pow10", Rows.laid_internal_strconv_uint64pow10), ("unicode/utf8.acceptRanges", Rows.laid_unicode_utf8_acceptRanges), ("strconv.ErrRange", Rows.laid_strconv_ErrRange), ("strconv.ErrSyntax", Rows.laid_strconv_ErrSyntax), ("unicode/utf8.first", Rows.laid_unicode_utf8_first)] w) ∧ sizedMet enc Tryz.prog Tryz.f5 (OpenSpec.ofChange Rows.chartFlipsSpec) false w args)
      (Rows.chartFlipsSpec.post enc Tryz.prog Tryz.f5 false true false false) := by
  refine returns_laid (C := Tryz.checked) (X := fun w _ => laidMetH Tryz.prog [("math/bits.deBruijn32tab", Rows.laid_math_bits_deBruijn32tab), ("math/bits.deBruijn64tab", Rows.laid_math_bits_deBruijn64tab), ("internal/strconv.uint64pow10", Rows.laid_internal_strconv_uint64pow10), ("unicode/utf8.acceptRanges", Rows.laid_unicode_utf8_acceptRanges), ("strconv.ErrRange", Rows.laid_strconv_ErrRange), ("strconv.ErrSyntax", Rows.laid_strconv_ErrSyntax), ("unicode/utf8.first", Rows.laid_unicode_utf8_first)] w) (fun _ _ _ hh h => h.of_heap hh) own started (by kernel_rfl) Tryz.func5
    (ChangeSpec.witness_shaped (enc := enc) (C := Tryz.checked) (os := os) (X := fun w _ => laidMetH Tryz.prog [("math/bits.deBruijn32tab", Rows.laid_math_bits_deBruijn32tab), ("math/bits.deBruijn64tab", Rows.laid_math_bits_deBruijn64tab), ("internal/strconv.uint64pow10", Rows.laid_internal_strconv_uint64pow10), ("unicode/utf8.acceptRanges", Rows.laid_unicode_utf8_acceptRanges), ("strconv.ErrRange", Rows.laid_strconv_ErrRange), ("strconv.ErrSyntax", Rows.laid_strconv_ErrSyntax), ("unicode/utf8.first", Rows.laid_unicode_utf8_first)] w) false (World.laidAll Tryz.prog os [("math/bits.deBruijn32tab", Rows.laid_math_bits_deBruijn32tab), ("math/bits.deBruijn64tab", Rows.laid_math_bits_deBruijn64tab), ("internal/strconv.uint64pow10", Rows.laid_internal_strconv_uint64pow10), ("unicode/utf8.acceptRanges", Rows.laid_unicode_utf8_acceptRanges), ("strconv.ErrRange", Rows.laid_strconv_ErrRange), ("strconv.ErrSyntax", Rows.laid_strconv_ErrSyntax), ("unicode/utf8.first", Rows.laid_unicode_utf8_first)]) #[.agg #[.int .i64 0, .slice none 0 0]] 8 (World.laidAll_os _ _ _)
      (World.shaped_of_ZipB (by kernel_rfl) (by kernel_rfl)) (by kernel_rfl) (by kernel_rfl) (by kernel_rfl)
      (by rw [MakeChecks.laidMetH_plain _ _ _ (by kernel_rfl)]; exact laidMet_laidAll _ (by kernel_rfl) (by kernel_rfl))) ?_
  intro W base args ds gs before hval0 hW hL hsh
  have hval : ∀ (j : Nat) t v, Tryz.f5.params[j]? = some t → args[j]? = some v → Value.okWide Tryz.prog W .any base t v := hval0
  have hW' := hW
  obtain ⟨p, q, hA0, hV, rfl, hfz, hnd⟩ := hW
  have hA : DataW.TrodAll enc Tryz.prog W 0 (fun _ => true) true Tryz.f5.params.toList args.toList ds p := hA0
  rw [Tryz.params5] at hA hval
  obtain ⟨v0, vs0, d0, ds0, p0, q0, hargs, rfl, rfl, h0, r0⟩ := trodAll_cons hA
  obtain ⟨rfl, rfl, rfl⟩ := trodAll_nil r0
  obtain rfl : args = #[v0] := by cases args; simp_all
  obtain ⟨rfl, rfl⟩ := trodVars_none hV
  obtain ⟨sa, Aa, na, ca, a, rfl, hia⟩ := open_chart_arg (hval 0 24 v0 rfl rfl) h0
  rw [MakeChecks.laidMetH_plain _ _ _ (by kernel_rfl)] at hL
  have hG := glob_of hL hsh
  refine (chartFlips_walk sa na ca Aa a W hia hG).mono fun e W' ⟨he, hg⟩ => ?_
  subst he
  exact ⟨_, rfl, law_post laid_out rfl Tryz.underlying4 (by kernel_rfl) rfl hW' rfl hg⟩

theorem chartFlips_holds : Rows.ChartFlipsSaid :=
  OpenClaim.holds_of_wide 5 Tryz.f5 rfl rfl rfl rfl rfl rfl rfl ⟨rfl, rfl, rfl, rfl, rfl⟩ rfl rfl rfl rfl rfl (by kernel_rfl) Tryz.func5 (by kernel_rfl)
    (of_decide_eq_true (by kernel_rfl)) (by unfold Func.isWrapper; first | (rw [if_pos (by decide +kernel)]; kernel_rfl) | (rw [if_neg (by decide +kernel)]; exact ⟨rfl, rfl⟩))
    (fun os started H enc _ => chartFlips_lifted os started H enc)

theorem chartFlips_card : Rows.ChartFlipsCardSaid :=
  Claim7.holds_tied_plain_at .later [] [.data, .data, .data, .data, .sentinel, .sentinel, .pinned] true (true, "39bfa126c88c4eab7a3d93e3b80aed671d612458207461505dfa1022f9959405") true
    chartFlips_holds (fun _ h => by cases h) (by kernel_rfl) (fun _ h => by cases h) chartFlips_row_tie rfl ⟨rfl, rfl⟩ (by kernel_rfl) rfl
    (fun f fn hf hfn => by
      obtain rfl : f = 5 := Option.some.inj ((show Tryz.prog.funcNamed "raddle/raddlelaw26.ChartFlips" = some 5 by kernel_rfl).symm.trans hf) |>.symm
      obtain rfl : fn = Tryz.f5 := (Option.some.inj (Tryz.func5.symm.trans hfn)).symm
      exact ⟨by kernel_rfl, fun j t ht => by
        rw [Tryz.params5] at ht
        have hm : t ∈ [24] := by simpa using Array.mem_of_getElem? ht
        have hall : ([24].all fun u => !Tryz.prog.wantsStandIn u) = true := by kernel_rfl
        exact (show Tryz.prog.wantsStandIn t = false by simpa using List.all_eq_true.1 hall t hm)⟩)
    (by kernel_rfl)
end Go.Proofs.YtjjhoonkooihjaaGreatDoor
