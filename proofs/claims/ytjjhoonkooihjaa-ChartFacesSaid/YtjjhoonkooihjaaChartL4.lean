/- Face, Flip and Part return what the reference returns; for any chart of at most 12 rows of at most 60 cells, or too many, and any numbers. -/
import Derived.Test.YtjjhoonkooihjaaFaceG
import Derived.Test.YtjjhoonkooihjaaFaceE
import Derived.Test.YtjjhoonkooihjaaFlipC
import Derived.Test.YtjjhoonkooihjaaLaw
namespace Go.Proofs.Ytjjhoonkooihjaa
open Go.ChangeShapes Go.WideShapes Go.ChangeAt Go.RowKit Go.Joins
section
variable {H : Type} {enc : TypeId × Value → H} {w : World} {base : Nat} {spare : Nat → Bool} {held : Bool}
theorem slice_cap {P : Program} {t e : TypeId} {A : Option Addr} {n c fuel : Nat} {y : DataW H × List MemPlace} (ht : P.underlying t = some (.slice e)) (h : DataW.trod enc P w base spare held fuel t [.slice A n c] = some y) : n ≤ c := by
  rcases Go.Deep.open_slice ht h with ⟨hcs, _⟩ | ⟨a, len, cap, m, n, D, Pl, hcs, _, hl, _⟩
  · simp only [List.cons.injEq, and_true, Value.slice.injEq] at hcs
    omega
  · simp only [List.cons.injEq, and_true, Value.slice.injEq] at hcs
    omega
/-- a chart that comes in, and that its rows have room -/
theorem open_chart_argc {r : Reach} {b0 : Nat} {v : Value} {d : DataW H} {p : List MemPlace} (hv : Value.okWide Try.prog w r b0 24 v) (h : DataW.Trod enc Try.prog w base spare held 24 v d p) :
    ∃ (s : Int) (A : Option Addr) (n c : Nat) (l : List Ro), v = .agg #[.int .i64 s, .slice A n c] ∧ Rws w (fun _ => True) A n l ∧ n ≤ c := by
  obtain ⟨v0, v1, y0, y1, n, rfl, -, -, h0, h1⟩ := open_agg2 Try.underlying24 (by kernel_rfl) (by kernel_rfl) hv h
  obtain ⟨s, e0, -, -⟩ := DataW.trod_int Try.underlying3 h0
  obtain ⟨A, n, c, l, rfl, hl⟩ := open_rows_in h1
  simp at e0
  subst e0
  exact ⟨s, A, n, c, l, rfl, hl, slice_cap Try.underlying22 h1⟩
end
theorem face_len {s : Int} {l : List Ro} {i : Int} : (faceL s l i).length ≤ 200 := by
  unfold faceL
  split
  · rename_i h
    unfold faceE at h
    split at h
    · rename_i h1; exact absurd h h1
    · rename_i h1
      split at h
      · cases h
      · rename_i h2
        have := (row_ok (k := i.toNat) (by simpa using h1) (by omega)).1
        unfold seenL
        split
        · rw [turnL_len]; exact this
        · exact this
  · simp
set_option maxRecDepth 100000 in
set_option maxHeartbeats 8000000 in
theorem chartFaces_walk (s : Int) (m c : Nat) (A : Option Addr) (la : List Ro) (w : World) (ha : Rws w (fun _ => True) A m la) (hcap : m ≤ c) (i f t : Int) :
    Calls Try.prog 5 #[.agg #[.int .i64 s, .slice A m c], .int .i64 i, .int .i64 f, .int .i64 t] w fun e w' => e = .returned (.bool true) ∧ Ext w w' := by
  have HA := Lib.hid ha
  clear ha
  have hB0 := Lib.hid (show Ext w (w.alloc (.cells #[.int .i64 s, .slice A m c] 24)) from (Ext.refl _).alloc _)
  have hb : Ext (w.alloc (.cells #[.int .i64 s, .slice A m c] 24)) (w.alloc (.cells #[.int .i64 s, .slice A m c] 24)) := Ext.refl _
  obtain ⟨hc, hf, hz⟩ := hb.facts
  cases hga : greatC la
  case true =>
    have HGA := Lib.hid hga
    clear hga
    go_enter Try.func5, Try.ntmps5
    go_wp2_with (first | (go_at_call 6; go_loud (((with_reducible refine (cgreat_any s A m c la _ (HA.out.ext (hB0.out.trans (hb.trans (by repeat (first | exact Ext.refl _ | refine Ext.drew ?_ | refine Ext.drewN ?_ _ | refine Ext.alloc ?_ _)))))).mono ?_); rintro e w1 ⟨rfl, hq1⟩; replace hb := Ext.via hb hq1 (by repeat (first | exact Ext.refl _ | refine Ext.drew ?_ | refine Ext.drewN ?_ _ | refine Ext.alloc ?_ _)); rw [HGA.out]; obtain ⟨hc, hf, hz⟩ := hb.facts))))
    go_ret
    exact ⟨rfl, hB0.out.trans hb⟩
  have HGA := Lib.hid hga
  clear hga
  have HML0 := Lib.hid (face_len (s := s) (l := la) (i := i))
  obtain ⟨ml, me, hM, hML⟩ : ∃ ml me, (∀ w e w', FaceR (faceL s la i) (faceE s la i) w e w' → FaceR ml me w e w') ∧ ml.length ≤ 200 := ⟨_, _, fun _ _ _ h => h, HML0.out⟩
  obtain ⟨fs, fl, fe, hF⟩ : ∃ fs fl fe, ∀ w e w', ChR (if chkC s la = 0 then s else 0) (if chkC s la = 0 then flipL la else []) (chkC s la) w e w' → ChR fs fl fe w e w' := ⟨_, _, _, fun _ _ _ h => h⟩
  obtain ⟨ps, pl, pe, hP⟩ : ∃ ps pl pe, ∀ w e w', ChR (partS s la f t) (partL s la f t) (partE s la f t) w e w' → ChR ps pl pe w e w' := ⟨_, _, _, fun _ _ _ h => h⟩
  have HM := Lib.hid hM
  have HML := Lib.hid hML
  have HF := Lib.hid hF
  have HP := Lib.hid hP
  clear hM hF hP hML HML0
  go_enter Try.func5, Try.ntmps5
  go_wp2_with (first
    | (go_at_call 6; go_loud (((with_reducible refine (cgreat_any s A m c la _ (HA.out.ext (hB0.out.trans (hb.trans (by repeat (first | exact Ext.refl _ | refine Ext.drew ?_ | refine Ext.drewN ?_ _ | refine Ext.alloc ?_ _)))))).mono ?_); rintro e w1 ⟨rfl, hq1⟩; replace hb := Ext.via hb hq1 (by repeat (first | exact Ext.refl _ | refine Ext.drew ?_ | refine Ext.drewN ?_ _ | refine Ext.alloc ?_ _)); rw [HGA.out]; obtain ⟨hc, hf, hz⟩ := hb.facts)))
    | (go_at_call 17; go_loud (((with_reducible refine (cface_any s i A m c la _ (HA.out.ext (hB0.out.trans (hb.trans (by repeat (first | exact Ext.refl _ | refine Ext.drew ?_ | refine Ext.drewN ?_ _ | refine Ext.alloc ?_ _)))))).mono ?_); intro e w2 hr; obtain ⟨A2, n2, c2, rfl, hq2, hv2⟩ := HM.out _ _ _ hr; have HQ2 := Lib.hid (show Ext w1 w2 from Ext.trans (by repeat (first | exact Ext.refl _ | refine Ext.drew ?_ | refine Ext.drewN ?_ _ | refine Ext.alloc ?_ _)) hq2); have HV2 := Lib.hid hv2; replace hb := Ext.via hb hq2 (by repeat (first | exact Ext.refl _ | refine Ext.drew ?_ | refine Ext.drewN ?_ _ | refine Ext.alloc ?_ _)); clear hr hq2 hv2; obtain ⟨hc, hf, hz⟩ := hb.facts)))
    | (go_at_call 18; go_loud (((with_reducible refine (rface_any s i A m c la _ (HA.out.ext (hB0.out.trans (hb.trans (by repeat (first | exact Ext.refl _ | refine Ext.drew ?_ | refine Ext.drewN ?_ _ | refine Ext.alloc ?_ _)))))).mono ?_); intro e w3 hr; obtain ⟨A3, n3, c3, rfl, hq3, hv3⟩ := HM.out _ _ _ hr; have HQ3 := Lib.hid (show Ext w2 w3 from Ext.trans (by repeat (first | exact Ext.refl _ | refine Ext.drew ?_ | refine Ext.drewN ?_ _ | refine Ext.alloc ?_ _)) hq3); have HV3 := Lib.hid hv3; replace hb := Ext.via hb hq3 (by repeat (first | exact Ext.refl _ | refine Ext.drew ?_ | refine Ext.drewN ?_ _ | refine Ext.alloc ?_ _)); clear hr hq3 hv3; obtain ⟨hc, hf, hz⟩ := hb.facts)))
    | (go_at_call 19; go_loud (((with_reducible refine (cflip_any s A m c la _ (HA.out.ext (hB0.out.trans (hb.trans (by repeat (first | exact Ext.refl _ | refine Ext.drew ?_ | refine Ext.drewN ?_ _ | refine Ext.alloc ?_ _)))))).mono ?_); intro e w4 hr; obtain ⟨A4, n4, c4, rfl, hq4, hr4⟩ := HF.out _ _ _ hr; have HQ4 := Lib.hid (show Ext (w3) w4 from Ext.trans (by repeat (first | exact Ext.refl _ | refine Ext.drew ?_ | refine Ext.drewN ?_ _ | refine Ext.alloc ?_ _)) hq4); have HR4 := Lib.hid (show Rws w4 (fun _ => True) A4 n4 fl from hr4.any); replace hb := Ext.via hb hq4 (by repeat (first | exact Ext.refl _ | refine Ext.drew ?_ | refine Ext.drewN ?_ _ | refine Ext.alloc ?_ _)); clear hr hq4 hr4; obtain ⟨hc, hf, hz⟩ := hb.facts)))
    | (go_at_call 20; go_loud (((with_reducible refine (rflip_any s A m c la _ (HA.out.ext (hB0.out.trans (hb.trans (by repeat (first | exact Ext.refl _ | refine Ext.drew ?_ | refine Ext.drewN ?_ _ | refine Ext.alloc ?_ _)))))).mono ?_); intro e w5 hr; obtain ⟨A5, n5, c5, rfl, hq5, hr5⟩ := HF.out _ _ _ hr; have HQ5 := Lib.hid (show Ext (w4.alloc (.cells #[.int .i64 fs, .slice A4 n4 c4] 24)) w5 from Ext.trans (by repeat (first | exact Ext.refl _ | refine Ext.drew ?_ | refine Ext.drewN ?_ _ | refine Ext.alloc ?_ _)) hq5); have HR5 := Lib.hid (show Rws w5 (fun _ => True) A5 n5 fl from hr5.any); replace hb := Ext.via hb hq5 (by repeat (first | exact Ext.refl _ | refine Ext.drew ?_ | refine Ext.drewN ?_ _ | refine Ext.alloc ?_ _)); clear hr hq5 hr5; obtain ⟨hc, hf, hz⟩ := hb.facts)))
    | (go_at_call 21; go_loud (((with_reducible refine (cpart_any s f t A m c la _ (HA.out.ext (hB0.out.trans (hb.trans (by repeat (first | exact Ext.refl _ | refine Ext.drew ?_ | refine Ext.drewN ?_ _ | refine Ext.alloc ?_ _))))) hcap).mono ?_); intro e w6 hr; obtain ⟨A6, n6, c6, rfl, hq6, hr6⟩ := HP.out _ _ _ hr; have HQ6 := Lib.hid (show Ext (w5.alloc (.cells #[.int .i64 fs, .slice A5 n5 c5] 24)) w6 from Ext.trans (by repeat (first | exact Ext.refl _ | refine Ext.drew ?_ | refine Ext.drewN ?_ _ | refine Ext.alloc ?_ _)) hq6); have HR6 := Lib.hid (show Rws w6 (fun _ => True) A6 n6 pl from hr6.any); replace hb := Ext.via hb hq6 (by repeat (first | exact Ext.refl _ | refine Ext.drew ?_ | refine Ext.drewN ?_ _ | refine Ext.alloc ?_ _)); clear hr hq6 hr6; obtain ⟨hc, hf, hz⟩ := hb.facts)))
    | (go_at_call 22; go_loud (((with_reducible refine (rpart_any s f t A m c la _ (HA.out.ext (hB0.out.trans (hb.trans (by repeat (first | exact Ext.refl _ | refine Ext.drew ?_ | refine Ext.drewN ?_ _ | refine Ext.alloc ?_ _))))) hcap).mono ?_); intro e w7 hr; obtain ⟨A7, n7, c7, rfl, hq7, hr7⟩ := HP.out _ _ _ hr; have HQ7 := Lib.hid (show Ext (w6.alloc (.cells #[.int .i64 ps, .slice A6 n6 c6] 24)) w7 from Ext.trans (by repeat (first | exact Ext.refl _ | refine Ext.drew ?_ | refine Ext.drewN ?_ _ | refine Ext.alloc ?_ _)) hq7); have HR7 := Lib.hid (show Rws w7 (fun _ => True) A7 n7 pl from hr7.any); replace hb := Ext.via hb hq7 (by repeat (first | exact Ext.refl _ | refine Ext.drew ?_ | refine Ext.drewN ?_ _ | refine Ext.alloc ?_ _)); clear hr hq7 hr7; obtain ⟨hc, hf, hz⟩ := hb.facts))))
  have HBF := Lib.hid (hB0.out.trans hb)
  clear hc hf hz hb
  have HX7 := Lib.hid (show Ext w7 (w7.alloc (.cells #[.int .i64 ps, .slice A7 n7 c7] 24)) from (Ext.refl w7).alloc _)
  have HX6 := Lib.hid (show Ext (w6.alloc (.cells #[.int .i64 ps, .slice A6 n6 c6] 24)) (w7.alloc (.cells #[.int .i64 ps, .slice A7 n7 c7] 24)) from HQ7.out.trans HX7.out)
  have HX5 := Lib.hid (show Ext (w5.alloc (.cells #[.int .i64 fs, .slice A5 n5 c5] 24)) (w7.alloc (.cells #[.int .i64 ps, .slice A7 n7 c7] 24)) from HQ6.out.trans (((Ext.refl w6).alloc _).trans HX6.out))
  have HX4 := Lib.hid (show Ext (w4.alloc (.cells #[.int .i64 fs, .slice A4 n4 c4] 24)) (w7.alloc (.cells #[.int .i64 ps, .slice A7 n7 c7] 24)) from HQ5.out.trans (((Ext.refl w5).alloc _).trans HX5.out))
  have HY4 := Lib.hid (((Ext.refl w4).alloc (.cells #[.int .i64 fs, .slice A4 n4 c4] 24)).trans HX4.out)
  have k40 : (w7.alloc (.cells #[.int .i64 ps, .slice A7 n7 c7] 24)).cell? ⟨w4.heap.size, 0, none⟩ = some (.int .i64 fs) := (Below.cell (p := ⟨w4.heap.size, 0, none⟩) HX4.out (by simp)).trans (by simp [go_sem])
  have k41 : (w7.alloc (.cells #[.int .i64 ps, .slice A7 n7 c7] 24)).cell? ⟨w4.heap.size, 1, none⟩ = some (.slice A4 n4 c4) := (Below.cell (p := ⟨w4.heap.size, 1, none⟩) HX4.out (by simp)).trans (by simp [go_sem])
  have k50 : (w7.alloc (.cells #[.int .i64 ps, .slice A7 n7 c7] 24)).cell? ⟨w5.heap.size, 0, none⟩ = some (.int .i64 fs) := (Below.cell (p := ⟨w5.heap.size, 0, none⟩) HX5.out (by simp)).trans (by simp [go_sem])
  have k51 : (w7.alloc (.cells #[.int .i64 ps, .slice A7 n7 c7] 24)).cell? ⟨w5.heap.size, 1, none⟩ = some (.slice A5 n5 c5) := (Below.cell (p := ⟨w5.heap.size, 1, none⟩) HX5.out (by simp)).trans (by simp [go_sem])
  have k60 : (w7.alloc (.cells #[.int .i64 ps, .slice A7 n7 c7] 24)).cell? ⟨w6.heap.size, 0, none⟩ = some (.int .i64 ps) := (Below.cell (p := ⟨w6.heap.size, 0, none⟩) HX6.out (by simp)).trans (by simp [go_sem])
  have k61 : (w7.alloc (.cells #[.int .i64 ps, .slice A7 n7 c7] 24)).cell? ⟨w6.heap.size, 1, none⟩ = some (.slice A6 n6 c6) := (Below.cell (p := ⟨w6.heap.size, 1, none⟩) HX6.out (by simp)).trans (by simp [go_sem])
  have k70 : (w7.alloc (.cells #[.int .i64 ps, .slice A7 n7 c7] 24)).cell? ⟨w7.heap.size, 0, none⟩ = some (.int .i64 ps) := by simp [go_sem]
  have k71 : (w7.alloc (.cells #[.int .i64 ps, .slice A7 n7 c7] 24)).cell? ⟨w7.heap.size, 1, none⟩ = some (.slice A7 n7 c7) := by simp [go_sem]
  replace HV2 := Lib.hid (HV2.out.ext (HQ3.out.trans (HQ4.out.trans HY4.out)))
  replace HV3 := Lib.hid (HV3.out.ext (HQ4.out.trans HY4.out))
  replace HR4 := Lib.hid (HR4.out.ext HY4.out)
  replace HR5 := Lib.hid (HR5.out.ext (((Ext.refl w5).alloc (.cells #[.int .i64 fs, .slice A5 n5 c5] 24)).trans HX5.out))
  replace HR6 := Lib.hid (HR6.out.ext (((Ext.refl w6).alloc (.cells #[.int .i64 ps, .slice A6 n6 c6] 24)).trans HX6.out))
  replace HR7 := Lib.hid (HR7.out.ext HX7.out)
  replace HBF := Lib.hid (HBF.out.trans HX7.out)
  clear HX7 HX6 HX5 HX4 HY4 HQ2 HQ3 HQ4 HQ5 HQ6 HQ7
  generalize w7.alloc (.cells #[.int .i64 ps, .slice A7 n7 c7] 24) = wl at *
  generalize w4.heap.size = p4 at *
  generalize w5.heap.size = p5 at *
  generalize w6.heap.size = p6 at *
  generalize w7.heap.size = p7 at *
  have l4 := World.block_lt_of_cell? wl _ k40
  have l5 := World.block_lt_of_cell? wl _ k50
  have l6 := World.block_lt_of_cell? wl _ k60
  have l7 := World.block_lt_of_cell? wl _ k70
  simp only at l4 l5 l6 l7
  go_wp2_with
    (first
      | (go_at_call 23; go_loud (((with_reducible refine (rsame_any n2 n3 c2 c3 A2 A3 ml ml _ (HV2.out.ext (by repeat (first | exact Ext.refl _ | refine Ext.drew ?_ | refine Ext.drewN ?_ _ | refine Ext.alloc ?_ _))) (HV3.out.ext (by repeat (first | exact Ext.refl _ | refine Ext.drew ?_ | refine Ext.drewN ?_ _ | refine Ext.alloc ?_ _))) (by have := HV2.out.len; have := HML.out; unfold maxLen; omega)).mono ?_); rintro e w8 ⟨rfl, hq8⟩; rw [show decide (ml = ml) = true from decide_eq_true rfl]; have HB8 := Lib.hid (show Ext wl w8 from Ext.trans (by repeat (first | exact Ext.refl _ | refine Ext.drew ?_ | refine Ext.drewN ?_ _ | refine Ext.alloc ?_ _)) hq8); clear hq8; obtain ⟨hc, hf, hz⟩ := HB8.out.facts)))
      | (go_at_call 10; (first | ((with_reducible refine (rcsame_any fs fs A4 A5 n4 n5 c4 c5 fl fl _ (HR4.out.ext (HB8.out.trans (by repeat (first | exact Ext.refl _ | refine Ext.drew ?_ | refine Ext.drewN ?_ _ | refine Ext.alloc ?_ _)))) (HR5.out.ext (HB8.out.trans (by repeat (first | exact Ext.refl _ | refine Ext.drew ?_ | refine Ext.drewN ?_ _ | refine Ext.alloc ?_ _))))).mono ?_); rintro e w9 ⟨rfl, hq⟩; rw [sameC_yes]; have HB9 := Lib.hid (show Ext wl w9 from (HB8.out).trans (Ext.trans (by repeat (first | exact Ext.refl _ | refine Ext.drew ?_ | refine Ext.drewN ?_ _ | refine Ext.alloc ?_ _)) hq)); clear hq; obtain ⟨hc, hf, hz⟩ := HB9.out.facts) | ((with_reducible refine (rcsame_any ps ps A6 A7 n6 n7 c6 c7 pl pl _ (HR6.out.ext (HB9.out.trans (by repeat (first | exact Ext.refl _ | refine Ext.drew ?_ | refine Ext.drewN ?_ _ | refine Ext.alloc ?_ _)))) (HR7.out.ext (HB9.out.trans (by repeat (first | exact Ext.refl _ | refine Ext.drew ?_ | refine Ext.drewN ?_ _ | refine Ext.alloc ?_ _))))).mono ?_); rintro e w10 ⟨rfl, hq⟩; rw [sameC_yes]; have HB10 := Lib.hid (show Ext wl w10 from (HB9.out).trans (Ext.trans (by repeat (first | exact Ext.refl _ | refine Ext.drew ?_ | refine Ext.drewN ?_ _ | refine Ext.alloc ?_ _)) hq)); clear hq; obtain ⟨hc, hf, hz⟩ := HB10.out.facts))))
  go_ret
  exact ⟨by simp, HBF.out.trans HB10.out⟩

set_option maxRecDepth 100000 in
theorem chartFaces_lifted (os : Os) (started : os.Started) (H : Type) (enc : TypeId × Value → H) :
    ReturnsInHanded {} Try.checked os 5 .any (Rows.chartFacesSpec.pre6 enc Try.prog Try.f5 Rows.chartFacesRow.domain false) (Rows.chartFacesSpec.post enc Try.prog Try.f5 false true false false) := by
  refine returnsInHanded_of_change (C := Try.checked) own started (by kernel_rfl) Try.func5
    (ChangeSpec.witness6 (enc := enc) (C := Try.checked) false ⟨#[], #[.agg #[.int .i64 0, .slice none 0 0], .int .i64 0, .int .i64 0, .int .i64 0], []⟩ 8 (by kernel_rfl) (by kernel_rfl) (by kernel_rfl) (by kernel_rfl)) ?_
  intro W base args ds gs before hval0 hW hcnd _
  have hval : ∀ (j : Nat) t v, Try.f5.params[j]? = some t → args[j]? = some v → Value.okWide Try.prog W .any base t v := hval0
  have hW' := hW
  obtain ⟨p, q, hA0, hV, rfl, hfz, hnd⟩ := hW
  have hA : DataW.TrodAll enc Try.prog W 0 (fun _ => true) true Try.f5.params.toList args.toList ds p := hA0
  rw [Try.params5] at hA hval
  obtain ⟨v0, vs0, d0, ds0, p0, q0, hargs, rfl, rfl, h0, r0⟩ := trodAll_cons hA
  obtain ⟨v1, vs1, d1, ds1, p1, q1, rfl, rfl, rfl, h1, r1⟩ := trodAll_cons r0
  obtain ⟨v2, vs2, d2, ds2, p2, q2, rfl, rfl, rfl, h2, r2⟩ := trodAll_cons r1
  obtain ⟨v3, vs3, d3, ds3, p3, q3, rfl, rfl, rfl, h3, r3⟩ := trodAll_cons r2
  obtain ⟨rfl, rfl, rfl⟩ := trodAll_nil r3
  obtain rfl : args = #[v0, v1, v2, v3] := by cases args; simp_all
  obtain ⟨rfl, rfl⟩ := trodVars_none hV
  obtain ⟨sa, Aa, na, ca, a, rfl, hia, hma⟩ := open_chart_argc (hval 0 24 v0 rfl rfl) h0
  obtain ⟨i, rfl, rfl, -, -⟩ := open_int Try.underlying3 (hval 1 3 v1 rfl rfl) h1
  obtain ⟨f, rfl, rfl, -, -⟩ := open_int Try.underlying3 (hval 2 3 v2 rfl rfl) h2
  obtain ⟨t, rfl, rfl, -, -⟩ := open_int Try.underlying3 (hval 3 3 v3 rfl rfl) h3
  refine (chartFaces_walk sa na ca Aa a W hia hma i f t).mono fun e W' ⟨he, hg⟩ => ?_
  subst he
  exact ⟨_, rfl, law_post laid_out rfl Try.underlying4 (by kernel_rfl) rfl hW' rfl hg⟩

theorem chartFaces_holds : Rows.ChartFacesSaid :=
  OpenClaim.holds_of_wide 5 Try.f5 rfl rfl rfl rfl rfl rfl rfl ⟨rfl, rfl, rfl, rfl, rfl⟩ rfl rfl rfl rfl rfl (by kernel_rfl) Try.func5 (by kernel_rfl)
    (of_decide_eq_true (by kernel_rfl)) (by unfold Func.isWrapper; first | (rw [if_pos (by decide +kernel)]; kernel_rfl) | (rw [if_neg (by decide +kernel)]; exact ⟨rfl, rfl⟩))
    (fun os started H enc _ => chartFaces_lifted os started H enc)
end Go.Proofs.Ytjjhoonkooihjaa
