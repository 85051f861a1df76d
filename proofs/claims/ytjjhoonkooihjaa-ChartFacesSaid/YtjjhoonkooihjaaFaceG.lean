/- The contract of Face of charts. -/
import Derived.Test.YtjjhoonkooihjaaFaceT
namespace Go.Proofs.Ytjjhoonkooihjaa
open Go.RowKit Go.ChangeShapes Go.WideShapes Go.Joins
set_option maxRecDepth 100000 in
set_option maxHeartbeats 4000000 in
theorem cface_any (s i : Int) (A : Option Addr) (m c : Nat) (la : List Ro) (w : World) (ha : Rws w (fun _ => True) A m la) :
    Calls Try.prog 17 #[.agg #[.int .i64 s, .slice A m c], .int .i64 i] w (FaceR (faceL s la i) (faceE s la i) w) := by
  have HLA := Lib.hid ha.len
  have HA := Lib.hid ha
  clear ha
  have hB0 := Lib.hid (show Ext w (w.alloc (.cells #[.int .i64 s, .slice A m c] 24)) from (Ext.refl _).alloc _)
  have hb : Ext (w.alloc (.cells #[.int .i64 s, .slice A m c] 24)) (w.alloc (.cells #[.int .i64 s, .slice A m c] 24)) := Ext.refl _
  obtain ⟨hc, hf, hz⟩ := hb.facts
  by_cases h1 : chkC s la = 0
  case neg =>
    obtain ⟨x, hx⟩ : ∃ x, chkC s la = x := ⟨_, rfl⟩
    rw [hx] at h1
    obtain ⟨e1, e2⟩ := face_1 (i := i) hx h1
    rw [e1, e2]
    have HC1 := Lib.hid hx
    have hne : (x != 0) = true := by simpa using h1
    clear h1 e1 e2 hx
    go_enter Try.func17, Try.ntmps17
    go_wp2_with (first | (go_at_call 13; ((with_reducible refine (ccheck_any s A m c la _ (HA.out.ext (hB0.out.trans (hb.trans (by repeat (first | exact Ext.refl _ | assumption | refine Ext.alloc ?_ _ | refine Ext.drew ?_ | refine Ext.drewN ?_ _ | refine Ext.trans ?_ (by assumption))))))).mono ?_); rintro e w1 ⟨rfl, hq1⟩; rw [HC1.out]; replace hb := Ext.via hb hq1 (by repeat (first | exact Ext.refl _ | assumption | refine Ext.alloc ?_ _ | refine Ext.drew ?_ | refine Ext.drewN ?_ _ | refine Ext.trans ?_ (by assumption))); clear hq1; obtain ⟨hc, hf, hz⟩ := hb.facts)))
    go_ret2
    exact ⟨none, 0, 0, rfl, hB0.out.trans hb, Vec.none_ _ _ _⟩
  by_cases hx : i < 0
  · obtain ⟨e1, e2⟩ := face_2 (i := i) h1 (.inl hx)
    rw [e1, e2]
    have HC1 := Lib.hid h1
    clear h1 e1 e2
    go_enter Try.func17, Try.ntmps17
    go_wp2_with (first | (go_at_call 13; ((with_reducible refine (ccheck_any s A m c la _ (HA.out.ext (hB0.out.trans (hb.trans (by repeat (first | exact Ext.refl _ | assumption | refine Ext.alloc ?_ _ | refine Ext.drew ?_ | refine Ext.drewN ?_ _ | refine Ext.trans ?_ (by assumption))))))).mono ?_); rintro e w1 ⟨rfl, hq1⟩; rw [HC1.out]; replace hb := Ext.via hb hq1 (by repeat (first | exact Ext.refl _ | assumption | refine Ext.alloc ?_ _ | refine Ext.drew ?_ | refine Ext.drewN ?_ _ | refine Ext.trans ?_ (by assumption))); clear hq1; obtain ⟨hc, hf, hz⟩ := hb.facts)))
    go_ret2
    exact ⟨none, 0, 0, rfl, hB0.out.trans hb, Vec.none_ _ _ _⟩
  by_cases hx : (m : Int) ≤ i
  · obtain ⟨e1, e2⟩ := face_2 (i := i) h1 (.inr (by rw [HLA.out]; exact hx))
    rw [e1, e2]
    have HC1 := Lib.hid h1
    clear h1 e1 e2
    go_enter Try.func17, Try.ntmps17
    go_wp2_with (first | (go_at_call 13; ((with_reducible refine (ccheck_any s A m c la _ (HA.out.ext (hB0.out.trans (hb.trans (by repeat (first | exact Ext.refl _ | assumption | refine Ext.alloc ?_ _ | refine Ext.drew ?_ | refine Ext.drewN ?_ _ | refine Ext.trans ?_ (by assumption))))))).mono ?_); rintro e w1 ⟨rfl, hq1⟩; rw [HC1.out]; replace hb := Ext.via hb hq1 (by repeat (first | exact Ext.refl _ | assumption | refine Ext.alloc ?_ _ | refine Ext.drew ?_ | refine Ext.drewN ?_ _ | refine Ext.trans ?_ (by assumption))); clear hq1; obtain ⟨hc, hf, hz⟩ := hb.facts)))
    go_ret2
    exact ⟨none, 0, 0, rfl, hB0.out.trans hb, Vec.none_ _ _ _⟩
  obtain ⟨k, rfl⟩ : ∃ k : Nat, i = (k : Int) := ⟨i.toNat, by omega⟩
  have hkm : k < m := by omega
  obtain ⟨e1, e2⟩ := face_0 (k := k) h1 (by rw [HLA.out]; exact hkm)
  rw [e1, e2]
  obtain ⟨r1, r2, r3⟩ := row_ok (k := k) h1 (by rw [HLA.out]; exact hkm)
  have HC1 := Lib.hid h1
  obtain ⟨b, off, A', n', c', rfl, hbw, -, d0, d1, hv, hm', -, -⟩ := HA.out.at_ hkm
  rw [hv.1] at r1
  have HV := Lib.hid hv
  have HO := Lib.hid r3
  have hlt9 : b < (w.alloc (.cells #[.int .i64 s, .slice (some ⟨b, off, none⟩) m c] 24)).heap.size := Nat.lt_of_lt_of_le hbw (Below.size hB0.out)
  have x0 := (Below.cell (p := ⟨b, off + k * 2, none⟩) hB0.out hbw).trans d0
  have x1 := (Below.cell (p := ⟨b, off + k * 2 + 1, none⟩) hB0.out hbw).trans d1
  generalize l0 : (la.getD k ro0).back = rb at *
  generalize l1 : (la.getD k ro0).cells = rc at *
  have q0 : (0 : Int) ≤ (k : Int) := by omega
  have q1 : (k : Int) < (m : Int) := by omega
  clear h1 e1 e2 d0 d1 hv r2 r3 l0 l1
  cases rb
  all_goals
    go_enter Try.func17, Try.ntmps17
    go_wp2_with (first
      | (go_at_call 13; ((with_reducible refine (ccheck_any s _ m c la _ (HA.out.ext (hB0.out.trans (hb.trans (by repeat (first | exact Ext.refl _ | assumption | refine Ext.alloc ?_ _ | refine Ext.drew ?_ | refine Ext.drewN ?_ _ | refine Ext.trans ?_ (by assumption))))))).mono ?_); rintro e w1 ⟨rfl, hq1⟩; rw [HC1.out]; replace hb := Ext.via hb hq1 (by repeat (first | exact Ext.refl _ | assumption | refine Ext.alloc ?_ _ | refine Ext.drew ?_ | refine Ext.drewN ?_ _ | refine Ext.trans ?_ (by assumption))); clear hq1; obtain ⟨hc, hf, hz⟩ := hb.facts; have y0 := (hc b (off + k * 2) hlt9).trans x0; have y1 := (hc b (off + k * 2 + 1) hlt9).trans x1))
      | (go_at_call 33; ((with_reducible refine (turn_ok n' c' A' rc _ (HV.out.ext (hB0.out.trans (hb.trans (by repeat (first | exact Ext.refl _ | assumption | refine Ext.alloc ?_ _ | refine Ext.drew ?_ | refine Ext.drewN ?_ _ | refine Ext.trans ?_ (by assumption)))))) HO.out).mono ?_); rintro e w2 ⟨A2, n2, c2, rfl, hq2, hv2⟩; have HV2 := Lib.hid hv2; clear hv2; replace hb := Ext.via hb hq2 (by repeat (first | exact Ext.refl _ | assumption | refine Ext.alloc ?_ _ | refine Ext.drew ?_ | refine Ext.drewN ?_ _ | refine Ext.trans ?_ (by assumption))); clear hq2))
      | (go_at_call 34; ((with_reducible refine (sclone_any n' c' A' rc _ (HV.out.ext (hB0.out.trans (hb.trans (by repeat (first | exact Ext.refl _ | assumption | refine Ext.alloc ?_ _ | refine Ext.drew ?_ | refine Ext.drewN ?_ _ | refine Ext.trans ?_ (by assumption)))))) (by omega)).mono ?_); rintro e w2 ⟨A2, n2, c2, rfl, hq2, hv2⟩; have HV2 := Lib.hid hv2; clear hv2; replace hb := Ext.via hb hq2 (by repeat (first | exact Ext.refl _ | assumption | refine Ext.alloc ?_ _ | refine Ext.drew ?_ | refine Ext.drewN ?_ _ | refine Ext.trans ?_ (by assumption))); clear hq2)))
    go_ret2
    exact ⟨A2, n2, c2, rfl, hB0.out.trans hb, HV2.out⟩
end Go.Proofs.Ytjjhoonkooihjaa
