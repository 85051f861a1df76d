/- The reference's Face, and slices.Clone of stitches. -/
import Derived.Test.YtjjhoonkooihjaaFaceA
import Derived.Test.YtjjhoonkooihjaaChartX
namespace Go.Proofs.Ytjjhoonkooihjaa
open Go.RowKit Go.ChangeShapes Go.WideShapes Go.Joins
/-- the error of Face -/
def faceE (s : Int) (l : List Ro) (i : Int) : Int := if chkC s l ≠ 0 then chkC s l else if i < 0 ∨ (l.length : Int) ≤ i then 2 else 0
/-- what Face returns -/
def faceL (s : Int) (l : List Ro) (i : Int) : List St := if faceE s l i = 0 then seenL (l.getD i.toNat ro0).back (l.getD i.toNat ro0).cells else []
/-- a call has returned a list of stitches and an error -/
def FaceR (L : List St) (x : Int) (w : World) (e : Ending) (w' : World) : Prop := ∃ (A : Option Addr) (n c : Nat), e = .returned (.tuple #[.slice A n c, .int .i64 x]) ∧ Ext w w' ∧ Vec shSt w' A n L
theorem face_1 {s : Int} {l : List Ro} {i x : Int} (h : chkC s l = x) (h0 : x ≠ 0) : faceE s l i = x ∧ faceL s l i = [] := by
  have h1 : faceE s l i = x := by rw [faceE, if_pos (by rw [h]; exact h0), h]
  exact ⟨h1, by rw [faceL, if_neg (by rw [h1]; exact h0)]⟩
theorem face_2 {s : Int} {l : List Ro} {i : Int} (h : chkC s l = 0) (hi : i < 0 ∨ (l.length : Int) ≤ i) : faceE s l i = 2 ∧ faceL s l i = [] := by
  have h1 : faceE s l i = 2 := by rw [faceE, if_neg (by simpa using h), if_pos hi]
  exact ⟨h1, by rw [faceL, if_neg (by rw [h1]; decide)]⟩
theorem face_0 {s : Int} {l : List Ro} {k : Nat} (h : chkC s l = 0) (hk : k < l.length) : faceE s l (k : Int) = 0 ∧ faceL s l (k : Int) = seenL (l.getD k ro0).back (l.getD k ro0).cells := by
  have h1 : faceE s l (k : Int) = 0 := by rw [faceE, if_neg (by simpa using h), if_neg (by omega)]
  exact ⟨h1, by rw [faceL, if_pos h1]; rfl⟩
theorem row_ok {s : Int} {l : List Ro} {k : Nat} (h : chkC s l = 0) (hk : k < l.length) : (l.getD k ro0).cells.length ≤ 200 ∧ allB (l.getD k ro0).cells = true ∧ allE (l.getD k ro0).cells = 0 := by
  have h1 := (chkGo_ok (chkC_ok h).2.2.2 k hk).1
  have h2 := allE_e h1
  exact ⟨h2.1, h2.2.1, h1⟩
set_option maxRecDepth 100000 in
set_option maxHeartbeats 4000000 in
theorem rface_any (s i : Int) (A : Option Addr) (m c : Nat) (la : List Ro) (w : World) (ha : Rws w (fun _ => True) A m la) :
    Calls Try.prog 18 #[.agg #[.int .i64 s, .slice A m c], .int .i64 i] w (FaceR (faceL s la i) (faceE s la i) w) := by
  have HLA := Lib.hid ha.len
  have HA := Lib.hid ha
  clear ha
  have hB0 := Lib.hid (show Ext w (w.alloc (.cells #[.int .i64 s, .slice A m c] 24)) from (Ext.refl _).alloc _)
  have hb : Ext (w.alloc (.cells #[.int .i64 s, .slice A m c] 24)) (w.alloc (.cells #[.int .i64 s, .slice A m c] 24)) := Ext.refl _
  obtain ⟨hc, hf, hz⟩ := hb.facts
  by_cases h1 : chkC s la = 0
  case neg =>
    obtain ⟨x, hx⟩ : ∃ x, chkC s la = x := ⟨_, rfl⟩
    rw [hx] at h1
    obtain ⟨e1, e2⟩ := face_1 (i := i) hx h1
    rw [e1, e2]
    have HC1 := Lib.hid hx
    have hne : (x != 0) = true := by simpa using h1
    clear h1 e1 e2 hx
    go_enter Try.func18, Try.ntmps18
    go_wp2_with (go_at_call 14; ((with_reducible refine (rccheck_any s A m c la _ (HA.out.ext (hB0.out.trans (hb.trans (by repeat (first | exact Ext.refl _ | assumption | refine Ext.alloc ?_ _ | refine Ext.drew ?_ | refine Ext.drewN ?_ _ | refine Ext.trans ?_ (by assumption))))))).mono ?_); rintro e w1 ⟨rfl, hq1⟩; rw [HC1.out]; replace hb := Ext.via hb hq1 (by repeat (first | exact Ext.refl _ | assumption | refine Ext.alloc ?_ _ | refine Ext.drew ?_ | refine Ext.drewN ?_ _ | refine Ext.trans ?_ (by assumption))); clear hq1; obtain ⟨hc, hf, hz⟩ := hb.facts))
    go_ret2
    exact ⟨none, 0, 0, rfl, hB0.out.trans hb, Vec.none_ _ _ _⟩
  by_cases h2 : i < 0
  · obtain ⟨e1, e2⟩ := face_2 (i := i) h1 (.inl h2)
    rw [e1, e2]
    have HC1 := Lib.hid h1
    clear h1 e1 e2
    go_enter Try.func18, Try.ntmps18
    go_wp2_with (go_at_call 14; ((with_reducible refine (rccheck_any s A m c la _ (HA.out.ext (hB0.out.trans (hb.trans (by repeat (first | exact Ext.refl _ | assumption | refine Ext.alloc ?_ _ | refine Ext.drew ?_ | refine Ext.drewN ?_ _ | refine Ext.trans ?_ (by assumption))))))).mono ?_); rintro e w1 ⟨rfl, hq1⟩; rw [HC1.out]; replace hb := Ext.via hb hq1 (by repeat (first | exact Ext.refl _ | assumption | refine Ext.alloc ?_ _ | refine Ext.drew ?_ | refine Ext.drewN ?_ _ | refine Ext.trans ?_ (by assumption))); clear hq1; obtain ⟨hc, hf, hz⟩ := hb.facts))
    go_ret2
    exact ⟨none, 0, 0, rfl, hB0.out.trans hb, Vec.none_ _ _ _⟩
  by_cases h3 : (m : Int) ≤ i
  · obtain ⟨e1, e2⟩ := face_2 (i := i) h1 (.inr (by rw [HLA.out]; exact h3))
    rw [e1, e2]
    have HC1 := Lib.hid h1
    clear h1 e1 e2
    go_enter Try.func18, Try.ntmps18
    go_wp2_with (go_at_call 14; ((with_reducible refine (rccheck_any s A m c la _ (HA.out.ext (hB0.out.trans (hb.trans (by repeat (first | exact Ext.refl _ | assumption | refine Ext.alloc ?_ _ | refine Ext.drew ?_ | refine Ext.drewN ?_ _ | refine Ext.trans ?_ (by assumption))))))).mono ?_); rintro e w1 ⟨rfl, hq1⟩; rw [HC1.out]; replace hb := Ext.via hb hq1 (by repeat (first | exact Ext.refl _ | assumption | refine Ext.alloc ?_ _ | refine Ext.drew ?_ | refine Ext.drewN ?_ _ | refine Ext.trans ?_ (by assumption))); clear hq1; obtain ⟨hc, hf, hz⟩ := hb.facts))
    go_ret2
    exact ⟨none, 0, 0, rfl, hB0.out.trans hb, Vec.none_ _ _ _⟩
  obtain ⟨k, rfl⟩ : ∃ k : Nat, i = (k : Int) := ⟨i.toNat, by omega⟩
  have hkm : k < m := by omega
  obtain ⟨e1, e2⟩ := face_0 (k := k) h1 (by rw [HLA.out]; exact hkm)
  rw [e1, e2]
  obtain ⟨r1, r2, -⟩ := row_ok (k := k) h1 (by rw [HLA.out]; exact hkm)
  have HC1 := Lib.hid h1
  obtain ⟨b, off, A', n', c', rfl, hbw, -, d0, d1, hv, hm', -, -⟩ := HA.out.at_ hkm
  rw [hv.1] at r1
  have HV := Lib.hid hv
  have HO := Lib.hid r2
  have hlt9 : b < (w.alloc (.cells #[.int .i64 s, .slice (some ⟨b, off, none⟩) m c] 24)).heap.size := Nat.lt_of_lt_of_le hbw (Below.size hB0.out)
  have x0 := (Below.cell (p := ⟨b, off + k * 2, none⟩) hB0.out hbw).trans d0
  have x1 := (Below.cell (p := ⟨b, off + k * 2 + 1, none⟩) hB0.out hbw).trans d1
  generalize l0 : (la.getD k ro0).back = rb at *
  generalize l1 : (la.getD k ro0).cells = rc at *
  have q0 : (0 : Int) ≤ (k : Int) := by omega
  have q1 : (k : Int) < (m : Int) := by omega
  clear h1 h2 h3 e1 e2 d0 d1 hv r2 l0 l1
  go_enter Try.func18, Try.ntmps18
  go_wp2_with (first
    | (go_at_call 14; ((with_reducible refine (rccheck_any s _ m c la _ (HA.out.ext (hB0.out.trans (hb.trans (by repeat (first | exact Ext.refl _ | assumption | refine Ext.alloc ?_ _ | refine Ext.drew ?_ | refine Ext.drewN ?_ _ | refine Ext.trans ?_ (by assumption))))))).mono ?_); rintro e w1 ⟨rfl, hq1⟩; rw [HC1.out]; replace hb := Ext.via hb hq1 (by repeat (first | exact Ext.refl _ | assumption | refine Ext.alloc ?_ _ | refine Ext.drew ?_ | refine Ext.drewN ?_ _ | refine Ext.trans ?_ (by assumption))); clear hq1; obtain ⟨hc, hf, hz⟩ := hb.facts; have y0 := (hc b (off + k * 2) hlt9).trans x0; have y1 := (hc b (off + k * 2 + 1) hlt9).trans x1))
    | (go_at_call 35; ((with_reducible refine (rseen_any rb n' c' A' rc _ (HV.out.ext (hB0.out.trans (hb.trans (by repeat (first | exact Ext.refl _ | assumption | refine Ext.alloc ?_ _ | refine Ext.drew ?_ | refine Ext.drewN ?_ _ | refine Ext.trans ?_ (by assumption)))))) r1 HO.out).mono ?_); rintro e w2 ⟨A2, n2, c2, rfl, hq2, hv2⟩; have HV2 := Lib.hid hv2; clear hv2; replace hb := Ext.via hb hq2 (by repeat (first | exact Ext.refl _ | assumption | refine Ext.alloc ?_ _ | refine Ext.drew ?_ | refine Ext.drewN ?_ _ | refine Ext.trans ?_ (by assumption))); clear hq2)))
  go_ret2
  exact ⟨A2, n2, c2, rfl, hB0.out.trans hb, HV2.out⟩
end Go.Proofs.Ytjjhoonkooihjaa
