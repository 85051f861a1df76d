/- Parse of a chart. -/
import Derived.Test.YtjjhoonkooihjaaGreatDoorG13
namespace Go.Proofs.YtjjhoonkooihjaaGreatDoor
set_option maxRecDepth 100000
set_option maxRecDepth 100000
open Go.RowKit Go.ChangeShapes Go.WideShapes Go.Joins
theorem cparse_long (l : List UInt8) (hl : 20000 < l.length) (h : (l.length : Int) ≤ 1000000000) (w : World) : Calls Tryz.prog 12 #[.string ⟨l.toArray⟩] w (CParseR l w) := by
  have h1 := Lib.hid (show chartP l = none by rw [chartP, if_pos hl])
  have h2 : (20000 : Int) < (l.length : Int) := by omega
  clear hl
  go_enter Tryz.func12, Tryz.ntmps12
  go_wp2_with fail
  exact bodyPost_ret (v := .tuple #[.agg #[.int .i64 0, .slice none 0 0], .int .i64 12]) (by simp [results, Tryz.f12, go_sem]) rfl (CParseR.no h1.out rfl (by repeat (first | exact Ext.refl _ | assumption | refine Ext.alloc ?_ _ | refine Ext.drew ?_ | refine Ext.drewN ?_ _ | refine Ext.trans ?_ (by assumption))))
set_option maxHeartbeats 8000000 in
theorem cparse_main (l : List UInt8) (hl : l.length ≤ 20000) (n : Int) (hc : (cutF 10 l).2.2 = true) (ha : atoiO (trimF (cutF 10 l).1) = some n) (w : World) (hg : Glob w) : Calls Tryz.prog 12 #[.string ⟨l.toArray⟩] w (CParseR l w) := by
  have HG := Lib.hid hg
  have hlen : ¬ (20000 : Int) < (l.length : Int) := by omega
  have HBAD := Lib.hid (fun h => chartP_bad hl hc ha h)
  have HEND := Lib.hid (fun r h => chartP_end (l := r) hl hc ha h)
  obtain ⟨hcl1, hcl2, -⟩ := cutF_len 10 l
  have htl := trimF_len (cutF 10 l).1
  have HNX := Lib.hid (fun (g : Nat) (w' : World) h1 h2 h3 => next_any g l (by omega) w' h1 h2 h3)
  rw [hc] at HNX
  obtain ⟨la, hla⟩ : ∃ la, (cutF 10 l).1 = la := ⟨_, rfl⟩
  obtain ⟨r0, hr0⟩ : ∃ r0, (cutF 10 l).2.1 = r0 := ⟨_, rfl⟩
  rw [hla, hr0] at HNX
  rw [hla] at hcl1 htl ha
  rw [hr0] at hcl2 HBAD HEND
  obtain ⟨ta, hta⟩ : ∃ ta, trimF la = ta := ⟨_, rfl⟩
  have HTR := Lib.hid (fun (w' : World) => ctrim_any la w')
  rw [hta] at HTR ha htl
  have HAT := Lib.hid (fun (w' : World) => atoi_yes ha (by omega) w')
  obtain ⟨L, hL⟩ : ∃ L, l.length = L := ⟨_, rfl⟩
  rw [hL] at HBAD HEND hcl2
  have hL2 : L ≤ 20000 := by omega
  clear hg hc ha hla hr0 hta htl hcl1
  have HL := Lib.hid hL
  clear hL
  go_enter Tryz.func12, Tryz.ntmps12
  have HWA := Lib.hid (show Ext w ((w.alloc (.cells #[.int .i64 0, .slice none 0 0] 24)).alloc (.cells #[.string ⟨l.toArray⟩] 9)) from ((Ext.refl w).alloc _).alloc _)
  go_upto_region 8 with (first
    | (go_at_call 35; go_loud ((refine (HNX.out (w.heap.size + 1) _ (HG.out.ext HWA.out) (by simp [go_sem]) (by simp [go_sem])).mono ?_); rintro e w' ⟨rfl, w2, hq2, rfl⟩; have HQ2 := Lib.hid hq2; clear hq2))
    | (go_at_call 38; go_loud (((with_reducible refine (HTR.out _).mono ?_); rintro e w6 ⟨rfl, rfl⟩)))
    | (go_at_call 37; go_loud (((with_reducible refine (HAT.out _).mono ?_); rintro e w3 ⟨rfl, hq3⟩; have HQ3 := Lib.hid hq3; clear hq3))))
  have HPI0 := Lib.hid (PI.start (n := n) (l := l) (r0 := r0) (tc := 24) (tb := 9) HQ2.out HQ3.out)
  clear HQ2 HQ3 HWA HTR HAT HNX
  go_loopw [6, 7] (fun u b wr => ∃ (W : World) (rest : List UInt8) (acc : List Ro) (V : Value) (lx : List UInt8) (bo : Bool), u = .string ⟨lx.toArray⟩ ∧ b = .bool bo ∧ rest.length ≤ 20000 ∧ acc.length ≤ 101 ∧ Hid (PI n w.heap.size (w.heap.size + 1) w3.heap.size w W wr rest acc V) ∧ Hid (if bo then ∃ f, rest.length ≤ f ∧ rowsP L [] r0 = rowsP f acc rest else rowsP L [] r0 = none)) (fun _ _ wr => restN (w.heap.size + 1) wr)
  case atStart => exact ⟨_, r0, [], _, la, true, rfl, rfl, by omega, by simp, HPI0, Lib.hid ⟨L, hcl2, rfl⟩⟩
  case round =>
    clear HPI0
    obtain ⟨W, rest, acc, V, lx, bo, rfl, rfl, hrl, hal, HP, HF⟩ := hrel
    obtain ⟨k0, k1, k2, k3, k4, f0, f1, f2, z0, z1, z2⟩ := HP.out.facts
    obtain ⟨A9, c9, rfl, hrw⟩ := own_rws HP.out.own (by omega)
    cases bo
    case false =>
      have HCP := Lib.hid (HBAD.out HF.out)
      clear HBAD HEND HF hrw
      go_wp2_with fail
      obtain ⟨y0, y1⟩ := res_cells (v0 := .int .i64 0) (v1 := .slice none 0 0) k0 k1
      exact bodyPost_ret (v := .tuple #[.agg #[.int .i64 0, .slice none 0 0], .int .i64 12]) (by simp [results, Tryz.f12, go_sem, y0, y1]) rfl (CParseR.no HCP.out rfl (Below.setCell (Below.setCell (HP.out.e0.trans HP.out.e1) (by simp) _) (by simp) _))
    case true =>
      obtain ⟨f, hf, hrow⟩ := HF.out
      by_cases he : rest = []
      · subst he
        have hfin := hrow.trans (rowsP_end f acc)
        clear hrow
        have HEQ := Lib.hid (HEND.out acc hfin)
        have HRW := Lib.hid hrw
        have HTX := Lib.hid (fun (w' : World) (hb : Ext wr w') => ctext_any n A9 acc.length c9 acc w' (hrw.any.ext hb) (HG.out.ext (HP.out.e0.trans (HP.out.e1.trans hb))))
        obtain ⟨T, hT⟩ : ∃ T, ctextV n acc = T := ⟨_, rfl⟩
        obtain ⟨E, hE⟩ : ∃ E, ctextE n acc = E := ⟨_, rfl⟩
        rw [hT, hE] at HEQ HTX
        clear hrw hfin HEND HBAD HF hT hE
        by_cases hE0 : E = 0
        · by_cases hT0 : T = l
          · have HCP := Lib.hid (HEQ.out.trans (if_pos ⟨hE0, hT0⟩))
            subst hE0
            have hTe : (T == l) = true := by simpa using hT0
            clear HEQ hT0
            go_wp2_with (first | (go_at_call 10; go_loud ((with_reducible refine (HTX.out _ (by repeat (first | exact Ext.refl _ | refine Ext.drew ?_ | refine Ext.drewN ?_ _ | refine Ext.alloc ?_ _))).mono ?_); rintro e w7 ⟨rfl, hq7⟩; have HP7 := Lib.hid (HP.out.ext hq7); have HQ7 := Lib.hid hq7; clear hq7; obtain ⟨j0, j1, j2, j3, j4, j5, j6, j7, j8, j9, j10⟩ := HP7.out.facts)))
            obtain ⟨y0, y1⟩ := res_cells (v0 := .int .i64 n) (v1 := .slice A9 acc.length c9) j0 j1
            have HR9 := Lib.hid (res_rws (g := w.heap.size) (v0 := .int .i64 n) (v1 := .slice A9 acc.length c9) (HRW.out.ext HQ7.out) HP.out.glt HP.out.gle)
            exact bodyPost_ret (v := .tuple #[.agg #[.int .i64 n, .slice A9 acc.length c9], .int .i64 0]) (by simp [results, Tryz.f12, go_sem, y0, y1]) rfl (CParseR.yes HCP.out rfl (Below.setCell (Below.setCell (HP7.out.e0.trans HP7.out.e1) (by simp) _) (by simp) _) HR9.out)
          · have HCP := Lib.hid (HEQ.out.trans (if_neg (fun h => hT0 h.2)))
            subst hE0
            have hTe : (T == l) = false := by simpa using hT0
            clear HEQ hT0
            go_wp2_with (first | (go_at_call 10; go_loud ((with_reducible refine (HTX.out _ (by repeat (first | exact Ext.refl _ | refine Ext.drew ?_ | refine Ext.drewN ?_ _ | refine Ext.alloc ?_ _))).mono ?_); rintro e w7 ⟨rfl, hq7⟩; have HP7 := Lib.hid (HP.out.ext hq7); have HQ7 := Lib.hid hq7; clear hq7; obtain ⟨j0, j1, j2, j3, j4, j5, j6, j7, j8, j9, j10⟩ := HP7.out.facts)))
            obtain ⟨y0, y1⟩ := res_cells (v0 := .int .i64 0) (v1 := .slice none 0 0) j0 j1
            exact bodyPost_ret (v := .tuple #[.agg #[.int .i64 0, .slice none 0 0], .int .i64 12]) (by simp [results, Tryz.f12, go_sem, y0, y1]) rfl (CParseR.no HCP.out rfl (Below.setCell (Below.setCell (HP7.out.e0.trans HP7.out.e1) (by simp) _) (by simp) _))
        · have HCP := Lib.hid (HEQ.out.trans (if_neg (fun h => hE0 h.1)))
          have hEe : (E != 0) = true := by simpa using hE0
          clear HEQ hE0
          go_wp2_with (first | (go_at_call 10; go_loud ((with_reducible refine (HTX.out _ (by repeat (first | exact Ext.refl _ | refine Ext.drew ?_ | refine Ext.drewN ?_ _ | refine Ext.alloc ?_ _))).mono ?_); rintro e w7 ⟨rfl, hq7⟩; have HP7 := Lib.hid (HP.out.ext hq7); have HQ7 := Lib.hid hq7; clear hq7; obtain ⟨j0, j1, j2, j3, j4, j5, j6, j7, j8, j9, j10⟩ := HP7.out.facts)))
          obtain ⟨y0, y1⟩ := res_cells (v0 := .int .i64 0) (v1 := .slice none 0 0) j0 j1
          exact bodyPost_ret (v := .tuple #[.agg #[.int .i64 0, .slice none 0 0], .int .i64 12]) (by simp [results, Tryz.f12, go_sem, y0, y1]) rfl (CParseR.no HCP.out rfl (Below.setCell (Below.setCell (HP7.out.e0.trans HP7.out.e1) (by simp) _) (by simp) _))
      · have hee : (rest == []) = false := by simpa using he
        by_cases hm : 100 < acc.length
        · have hfin := hrow.trans (rowsP_many hm)
          have hm2 : ¬ ((acc.length : Int) ≤ 100) := by omega
          clear hrow he
          have HEQ := Lib.hid (HEND.out acc hfin)
          have HRW := Lib.hid hrw
          have HTX := Lib.hid (fun (w' : World) (hb : Ext wr w') => ctext_any n A9 acc.length c9 acc w' (hrw.any.ext hb) (HG.out.ext (HP.out.e0.trans (HP.out.e1.trans hb))))
          obtain ⟨T, hT⟩ : ∃ T, ctextV n acc = T := ⟨_, rfl⟩
          obtain ⟨E, hE⟩ : ∃ E, ctextE n acc = E := ⟨_, rfl⟩
          rw [hT, hE] at HEQ HTX
          clear hrw hfin HEND HBAD HF hT hE
          by_cases hE0 : E = 0
          · by_cases hT0 : T = l
            · have HCP := Lib.hid (HEQ.out.trans (if_pos ⟨hE0, hT0⟩))
              subst hE0
              have hTe : (T == l) = true := by simpa using hT0
              clear HEQ hT0
              go_wp2_with (first | (go_at_call 10; go_loud ((with_reducible refine (HTX.out _ (by repeat (first | exact Ext.refl _ | refine Ext.drew ?_ | refine Ext.drewN ?_ _ | refine Ext.alloc ?_ _))).mono ?_); rintro e w7 ⟨rfl, hq7⟩; have HP7 := Lib.hid (HP.out.ext hq7); have HQ7 := Lib.hid hq7; clear hq7; obtain ⟨j0, j1, j2, j3, j4, j5, j6, j7, j8, j9, j10⟩ := HP7.out.facts)))
              obtain ⟨y0, y1⟩ := res_cells (v0 := .int .i64 n) (v1 := .slice A9 acc.length c9) j0 j1
              have HR9 := Lib.hid (res_rws (g := w.heap.size) (v0 := .int .i64 n) (v1 := .slice A9 acc.length c9) (HRW.out.ext HQ7.out) HP.out.glt HP.out.gle)
              exact bodyPost_ret (v := .tuple #[.agg #[.int .i64 n, .slice A9 acc.length c9], .int .i64 0]) (by simp [results, Tryz.f12, go_sem, y0, y1]) rfl (CParseR.yes HCP.out rfl (Below.setCell (Below.setCell (HP7.out.e0.trans HP7.out.e1) (by simp) _) (by simp) _) HR9.out)
            · have HCP := Lib.hid (HEQ.out.trans (if_neg (fun h => hT0 h.2)))
              subst hE0
              have hTe : (T == l) = false := by simpa using hT0
              clear HEQ hT0
              go_wp2_with (first | (go_at_call 10; go_loud ((with_reducible refine (HTX.out _ (by repeat (first | exact Ext.refl _ | refine Ext.drew ?_ | refine Ext.drewN ?_ _ | refine Ext.alloc ?_ _))).mono ?_); rintro e w7 ⟨rfl, hq7⟩; have HP7 := Lib.hid (HP.out.ext hq7); have HQ7 := Lib.hid hq7; clear hq7; obtain ⟨j0, j1, j2, j3, j4, j5, j6, j7, j8, j9, j10⟩ := HP7.out.facts)))
              obtain ⟨y0, y1⟩ := res_cells (v0 := .int .i64 0) (v1 := .slice none 0 0) j0 j1
              exact bodyPost_ret (v := .tuple #[.agg #[.int .i64 0, .slice none 0 0], .int .i64 12]) (by simp [results, Tryz.f12, go_sem, y0, y1]) rfl (CParseR.no HCP.out rfl (Below.setCell (Below.setCell (HP7.out.e0.trans HP7.out.e1) (by simp) _) (by simp) _))
          · have HCP := Lib.hid (HEQ.out.trans (if_neg (fun h => hE0 h.1)))
            have hEe : (E != 0) = true := by simpa using hE0
            clear HEQ hE0
            go_wp2_with (first | (go_at_call 10; go_loud ((with_reducible refine (HTX.out _ (by repeat (first | exact Ext.refl _ | refine Ext.drew ?_ | refine Ext.drewN ?_ _ | refine Ext.alloc ?_ _))).mono ?_); rintro e w7 ⟨rfl, hq7⟩; have HP7 := Lib.hid (HP.out.ext hq7); have HQ7 := Lib.hid hq7; clear hq7; obtain ⟨j0, j1, j2, j3, j4, j5, j6, j7, j8, j9, j10⟩ := HP7.out.facts)))
            obtain ⟨y0, y1⟩ := res_cells (v0 := .int .i64 0) (v1 := .slice none 0 0) j0 j1
            exact bodyPost_ret (v := .tuple #[.agg #[.int .i64 0, .slice none 0 0], .int .i64 12]) (by simp [results, Tryz.f12, go_sem, y0, y1]) rfl (CParseR.no HCP.out rfl (Below.setCell (Below.setCell (HP7.out.e0.trans HP7.out.e1) (by simp) _) (by simp) _))
        · have hm2 : (acc.length : Int) ≤ 100 := by omega
          obtain ⟨f, rfl⟩ : ∃ f', f = f' + 1 := ⟨f - 1, by have : 0 < rest.length := List.length_pos_iff.2 he; omega⟩
          obtain ⟨hd1, hd2, hd3⟩ := cutF_len 10 rest
          have hd3 := hd3 he
          have HNX := Lib.hid (fun (w' : World) (hb : Ext wr w') => next_any (w.heap.size + 1) rest (by omega) w' (HG.out.ext (HP.out.e0.trans (HP.out.e1.trans hb))) (HP.out.ext hb).facts.2.2.1 ((HP.out.ext hb).facts.2.2.2.2.2.2.1 0))
          have HCU := Lib.hid (fun h => hrow.trans (rowsP_cut (f := f) (acc := acc) he hm h))
          have HNO := Lib.hid (fun h h2 => hrow.trans (rowsP_no (f := f) (acc := acc) he hm h h2))
          have HYE := Lib.hid (fun x h h2 => hrow.trans (rowsP_yes (f := f) (acc := acc) (l := x) he hm h h2))
          have HMS := Lib.hid (restN_of k2)
          generalize (cutF 10 rest).2.2 = bo at *
          obtain ⟨line, hline⟩ : ∃ x, (cutF 10 rest).1 = x := ⟨_, rfl⟩
          obtain ⟨rest2, hrest2⟩ : ∃ x, (cutF 10 rest).2.1 = x := ⟨_, rfl⟩
          rw [hline, hrest2] at HNX
          rw [hline] at HNO
          rw [hline, hrest2] at HYE
          rw [hline] at hd1
          rw [hrest2] at hd2 hd3
          clear hline hrest2 hrow hm he HF hrw HEND
          cases bo
          case false =>
            have HCP := Lib.hid (HBAD.out (HCU.out rfl))
            clear HNO HYE HCU HBAD
            go_wp2_with (first
              | (go_at_call 35; go_loud ((refine (HNX.out _ (by repeat (first | exact Ext.refl _ | refine Ext.drew ?_ | refine Ext.drewN ?_ _ | refine Ext.alloc ?_ _))).mono ?_); rintro e w' ⟨rfl, w2, hq2, rfl⟩; have HP2 := Lib.hid ((HP.out.ext hq2).rest_ rest2); clear hq2; obtain ⟨j0, j1, j2, j3, j4, j5, j6, j7, j8, j9, j10⟩ := HP2.out.facts)))
            obtain ⟨y0, y1⟩ := res_cells (v0 := .int .i64 0) (v1 := .slice none 0 0) j0 j1
            exact bodyPost_ret (v := .tuple #[.agg #[.int .i64 0, .slice none 0 0], .int .i64 12]) (by simp [results, Tryz.f12, go_sem, y0, y1]) rfl (CParseR.no HCP.out rfl (Below.setCell (Below.setCell (HP2.out.e0.trans HP2.out.e1) (by simp) _) (by simp) _))
          case true =>
            have HCU2 := Lib.hid (fun (w' : World) (hg' : Glob w') => cut_str_any 32 line (by omega) w' hg')
            have hcl := (cutF_len 32 line).2.1
            obtain ⟨sd, hsd⟩ : ∃ x, (cutF 32 line).1 = x := ⟨_, rfl⟩
            obtain ⟨cl, hcl2⟩ : ∃ x, (cutF 32 line).2.1 = x := ⟨_, rfl⟩
            rw [hsd, hcl2] at HCU2
            rw [hcl2] at HNO hcl
            rw [hsd, hcl2] at HYE
            generalize (cutF 32 line).2.2 = fl at *
            have HPA := Lib.hid (fun (w' : World) (hg' : Glob w') => parse_any cl (by omega) w' hg')
            clear hsd hcl2 HCU hcl hd1 hd2
            cases hp : parseL cl
            case none =>
              have HP12 := Lib.hid (parse_none hp).1
              have HBD := Lib.hid (HNO.out rfl hp)
              clear HNO HYE hp
              go_wp2_with (first
                | (go_at_call 35; go_loud ((refine (HNX.out _ (by repeat (first | exact Ext.refl _ | refine Ext.drew ?_ | refine Ext.drewN ?_ _ | refine Ext.alloc ?_ _))).mono ?_); rintro e w' ⟨rfl, w2, hq2, rfl⟩; have HP2 := Lib.hid ((HP.out.ext hq2).rest_ rest2); clear hq2))
                | (go_at_call 36; go_loud ((with_reducible refine (HCU2.out _ (HG.out.ext (HP2.out.e0.trans HP2.out.e1))).mono ?_); rintro e w4 ⟨rfl, hq4⟩; have HP3 := Lib.hid (HP2.out.ext hq4); clear hq4; obtain ⟨j0, j1, j2, j3, j4, j5, j6, j7, j8, j9, j10⟩ := HP3.out.facts))
                | (go_at_call 39; go_loud ((with_reducible refine (HPA.out _ (HG.out.ext (HP3.out.e0.trans HP3.out.e1))).mono ?_); rintro e w5 ⟨v5, rfl, hv5, hq5⟩; rw [HP12.out]; have HP5 := Lib.hid (HP3.out.ext hq5); clear hq5 hv5)))
              go_roundw
              case rel => exact ⟨_, rest2, acc, _, line, false, rfl, rfl, by omega, by omega, HP5, HBD⟩
              case measure => rw [HMS.out, restN_of HP5.out.facts.2.2.1]; exact hd3
            case some x =>
              have HP0 := Lib.hid (parse_some hp)
              have HBD := Lib.hid (HYE.out x rfl hp)
              have hx9 := allE_e (parse_iff.1 hp).2.1
              have HBY := Lib.hid (bytes_ok hx9.2.1)
              have hxl := hx9.1
              have hbk : decide (sd = sideT true) = (sd == [98, 97, 99, 107]) := by
                by_cases h9 : sd = [98, 97, 99, 107] <;> simp [h9, sideT]
              rw [hbk] at HBD
              obtain ⟨bk, hbk2⟩ : ∃ bk, (sd == [98, 97, 99, 107]) = bk := ⟨_, rfl⟩
              rw [hbk2] at HBD
              clear HNO HYE hp hx9 hbk
              go_upto_region 15 with (first
                | (go_at_call 35; go_loud ((refine (HNX.out _ (by repeat (first | exact Ext.refl _ | refine Ext.drew ?_ | refine Ext.drewN ?_ _ | refine Ext.alloc ?_ _))).mono ?_); rintro e w' ⟨rfl, w2, hq2, rfl⟩; have HP2 := Lib.hid ((HP.out.ext hq2).rest_ rest2); clear hq2))
                | (go_at_call 36; go_loud ((with_reducible refine (HCU2.out _ (HG.out.ext (HP2.out.e0.trans HP2.out.e1))).mono ?_); rintro e w4 ⟨rfl, hq4⟩; have HP3 := Lib.hid (HP2.out.ext hq4); clear hq4; obtain ⟨j0, j1, j2, j3, j4, j5, j6, j7, j8, j9, j10⟩ := HP3.out.facts))
                | (go_at_call 39; go_loud ((with_reducible refine (HPA.out _ (HG.out.ext (HP3.out.e0.trans HP3.out.e1))).mono ?_); rintro e w5 ⟨v5, rfl, hv5, hq5⟩; rw [HP0.out.2] at hv5; rw [HP0.out.1]; have HP5 := Lib.hid (HP3.out.ext hq5); obtain ⟨A5, c5, rfl, hve5, hbl5⟩ := own_vecB hv5; have HFZ := Lib.hid (own_frozen hv5); have HVE := Lib.hid hve5; have HBL := Lib.hid (fun h9 b9 off9 e9 => (show W.heap.size ≤ b9 ∧ some b9 ≠ (Value.slice A9 acc.length c9).ownBlock from ⟨Nat.le_trans (by have := HP3.out.gsz; simpa using this) (hbl5 h9 b9 off9 e9), fun e8 => by have h7 := (HP3.out.own.blk b9 e8.symm).2; have h6 := hbl5 h9 b9 off9 e9; omega⟩)); clear hq5 hv5 hve5 hbl5; obtain ⟨j0, j1, j2, j3, j4, j5, j6, j7, j8, j9, j10⟩ := HP5.out.facts)))
              go_wp2_with (first | (at_builtin; go_loud (refine wpList_append_rws (w := W.setCell ⟨w.heap.size + 1, 0, none⟩ (.string ⟨rest2.toArray⟩)) (t := acc) (r := [⟨bk, x⟩]) (ys := [⟨bk, A5, x.length, c5⟩]) 22 46 (.agg #[.bool false, .slice none 0 0]) 32 (by rfl) (by rfl) Tryz.underlying22 info_row (by rfl) (by omega) (by rfl) (by rfl) (HP5.out.own.ext (by repeat (first | exact Ext.refl _ | refine Ext.drew ?_ | refine Ext.drewN ?_ _ | refine Ext.alloc ?_ _))) (HP5.out.e1.trans (by repeat (first | exact Ext.refl _ | refine Ext.drew ?_ | refine Ext.drewN ?_ _ | refine Ext.alloc ?_ _))) (Vec.lit2 (w := w5) (by rfl) (by rfl) (by rfl)) (ros_one (show RoAt _ (Kr _ _ _) ⟨bk, A5, x.length, c5⟩ ⟨bk, x⟩ from ⟨rfl, HVE.out.ext (by repeat (first | exact Ext.refl _ | refine Ext.drew ?_ | refine Ext.drewN ?_ _ | refine Ext.alloc ?_ _)), by show x.length ≤ maxLen; unfold maxLen; omega, HBY.out, fun h9 b9 off9 e9 => ⟨by have := (HBL.out h9 b9 off9 e9).1; simpa using this, (HBL.out h9 b9 off9 e9).2, fun o => (Ext.frozenAt (by repeat (first | exact Ext.refl _ | refine Ext.drew ?_ | refine Ext.drewN ?_ _ | refine Ext.alloc ?_ _)) ⟨b9, o, none⟩ (HFZ.out h9 b9 off9 e9).2).trans ((HFZ.out h9 b9 off9 e9).1 o)⟩⟩)) (by omega) ?_; intro v' w6 hown6 hext6; obtain ⟨A6, c6, rfl, -⟩ := own_rws hown6 (by omega); have HL6 := Lib.hid HP5.out.lt; have i0 : w6.cell? ⟨w3.heap.size, 1, none⟩ = some (.slice A9 acc.length c9) := ((hext6.out.facts.1 _ _ HL6.out.2.2.2).trans HP5.out.c1); have i1 : w6.frozen? ⟨w3.heap.size, 1, none⟩ = false := ((hext6.out.facts.2.1 _ _ HL6.out.2.2.2).trans (HP5.out.z2 1)); have i2 : w3.heap.size < w6.heap.size := (hext6.out.facts.2.2 _ HL6.out.2.2.2); have HP7 := Lib.hid (HP5.out.rows_ (acc2 := acc ++ [⟨bk, x⟩]) hext6.out (by rw [List.length_append]; exact hown6)))))
              go_wp2
              go_roundw
              case rel => exact ⟨_, rest2, acc ++ [⟨bk, x⟩], _, line, true, rfl, rfl, by omega, by rw [List.length_append]; simp only [List.length_singleton]; omega, HP7, Lib.hid ⟨f, by omega, HBD.out⟩⟩
              case measure => rw [HMS.out, restN_of HP7.out.facts.2.2.1]; exact hd3
/-- Atoi of whatever string -/
theorem atoi_all (l : List UInt8) (hl : l.length ≤ 1000000) (w : World) (hg : Glob w) :
    Calls Tryz.prog 37 #[.string ⟨l.toArray⟩] w fun e w' => ∃ (v : Int) (u : Value), e = .returned (.tuple #[.int .i64 v, u]) ∧ Ext w w' := by
  cases h : atoiO l with
  | none =>
    refine (atoi_no h hl w hg).mono ?_
    rintro e w' ⟨v, te, p, rfl, hb⟩
    exact ⟨_, _, rfl, hb⟩
  | some v =>
    refine (atoi_yes h hl w).mono ?_
    rintro e w' ⟨rfl, hb⟩
    exact ⟨_, _, rfl, hb⟩
set_option maxHeartbeats 8000000 in
theorem cparse_cut (l : List UInt8) (hl : l.length ≤ 20000) (hc : (cutF 10 l).2.2 = false) (w : World) (hg : Glob w) : Calls Tryz.prog 12 #[.string ⟨l.toArray⟩] w (CParseR l w) := by
  have HG := Lib.hid hg
  have hlen : ¬ (20000 : Int) < (l.length : Int) := by omega
  have HCP := Lib.hid (chartP_cut hc)
  have HAT := Lib.hid (fun (w' : World) (hg' : Glob w') => atoi_all (trimF (cutF 10 l).1) (by have h1 := trimF_len (cutF 10 l).1; have h2 := (cutF_len 10 l).1; omega) w' hg')
  obtain ⟨hcl1, hcl2, -⟩ := cutF_len 10 l
  have htl := trimF_len (cutF 10 l).1
  have HNX := Lib.hid (fun (g : Nat) (w' : World) h1 h2 h3 => next_any g l (by omega) w' h1 h2 h3)
  rw [hc] at HNX
  obtain ⟨la, hla⟩ : ∃ la, (cutF 10 l).1 = la := ⟨_, rfl⟩
  obtain ⟨r0, hr0⟩ : ∃ r0, (cutF 10 l).2.1 = r0 := ⟨_, rfl⟩
  rw [hla, hr0] at HNX
  rw [hla] at hcl1 htl HAT
  rw [hr0] at hcl2
  obtain ⟨ta, hta⟩ : ∃ ta, trimF la = ta := ⟨_, rfl⟩
  have HTR := Lib.hid (fun (w' : World) => ctrim_any la w')
  rw [hta] at HTR htl HAT
  clear hg hc hla hr0 hta htl hcl1
  go_enter Tryz.func12, Tryz.ntmps12
  have HWA := Lib.hid (show Ext w ((w.alloc (.cells #[.int .i64 0, .slice none 0 0] 24)).alloc (.cells #[.string ⟨l.toArray⟩] 9)) from ((Ext.refl w).alloc _).alloc _)
  go_upto_region 8 with (first
    | (go_at_call 35; go_loud ((refine (HNX.out (w.heap.size + 1) _ (HG.out.ext HWA.out) (by simp [go_sem]) (by simp [go_sem])).mono ?_); rintro e w' ⟨rfl, w2, hq2, rfl⟩; have HQ2 := Lib.hid hq2; have HX2 := Lib.hid (show Ext w (w2.setCell ⟨w.heap.size + 1, 0, none⟩ (.string ⟨r0.toArray⟩)) from Below.setCell (HWA.out.trans hq2) (by simp) _); clear hq2))
    | (go_at_call 38; go_loud (((with_reducible refine (HTR.out _).mono ?_); rintro e w6 ⟨rfl, rfl⟩)))
    | (go_at_call 37; go_loud (((with_reducible refine (HAT.out _ (HG.out.ext HX2.out)).mono ?_); rintro e w3 ⟨v, er, rfl, hq3⟩; have HQ3 := Lib.hid hq3; clear hq3))))
  have HPI0 := Lib.hid (PI.start (n := v) (l := l) (r0 := r0) (tc := 24) (tb := 9) HQ2.out HQ3.out)
  clear HQ2 HQ3 HWA HTR HAT HNX HX2
  go_loopw [6, 7] (fun u b wr => ∃ (W : World), u = .string ⟨la.toArray⟩ ∧ b = .bool false ∧ Hid (PI v w.heap.size (w.heap.size + 1) w3.heap.size w W wr r0 [] (.slice none 0 0))) (fun _ _ _ => 0)
  case atStart => exact ⟨_, rfl, rfl, HPI0⟩
  case round =>
    clear HPI0
    obtain ⟨W, rfl, rfl, HP⟩ := hrel
    obtain ⟨k0, k1, k2, k3, k4, f0, f1, f2, z0, z1, z2⟩ := HP.out.facts
    go_wp2_with fail
    obtain ⟨y0, y1⟩ := res_cells (v0 := .int .i64 0) (v1 := .slice none 0 0) k0 k1
    exact bodyPost_ret (v := .tuple #[.agg #[.int .i64 0, .slice none 0 0], .int .i64 12]) (by simp [results, Tryz.f12, go_sem, y0, y1]) rfl (CParseR.no HCP.out rfl (Below.setCell (Below.setCell (HP.out.e0.trans HP.out.e1) (by simp) _) (by simp) _))
set_option maxHeartbeats 8000000 in
theorem cparse_num (l : List UInt8) (hl : l.length ≤ 20000) (hc : (cutF 10 l).2.2 = true) (ha : atoiO (trimF (cutF 10 l).1) = none) (w : World) (hg : Glob w) : Calls Tryz.prog 12 #[.string ⟨l.toArray⟩] w (CParseR l w) := by
  have HG := Lib.hid hg
  have hlen : ¬ (20000 : Int) < (l.length : Int) := by omega
  have HCP := Lib.hid (chartP_num ha)
  have HAT := Lib.hid (fun (w' : World) (hg' : Glob w') => atoi_no ha (by have h1 := trimF_len (cutF 10 l).1; have h2 := (cutF_len 10 l).1; omega) w' hg')
  clear ha
  obtain ⟨hcl1, hcl2, -⟩ := cutF_len 10 l
  have htl := trimF_len (cutF 10 l).1
  have HNX := Lib.hid (fun (g : Nat) (w' : World) h1 h2 h3 => next_any g l (by omega) w' h1 h2 h3)
  rw [hc] at HNX
  obtain ⟨la, hla⟩ : ∃ la, (cutF 10 l).1 = la := ⟨_, rfl⟩
  obtain ⟨r0, hr0⟩ : ∃ r0, (cutF 10 l).2.1 = r0 := ⟨_, rfl⟩
  rw [hla, hr0] at HNX
  rw [hla] at hcl1 htl HAT
  rw [hr0] at hcl2
  obtain ⟨ta, hta⟩ : ∃ ta, trimF la = ta := ⟨_, rfl⟩
  have HTR := Lib.hid (fun (w' : World) => ctrim_any la w')
  rw [hta] at HTR htl HAT
  clear hg hc hla hr0 hta htl hcl1
  go_enter Tryz.func12, Tryz.ntmps12
  have HWA := Lib.hid (show Ext w ((w.alloc (.cells #[.int .i64 0, .slice none 0 0] 24)).alloc (.cells #[.string ⟨l.toArray⟩] 9)) from ((Ext.refl w).alloc _).alloc _)
  go_upto_region 8 with (first
    | (go_at_call 35; go_loud ((refine (HNX.out (w.heap.size + 1) _ (HG.out.ext HWA.out) (by simp [go_sem]) (by simp [go_sem])).mono ?_); rintro e w' ⟨rfl, w2, hq2, rfl⟩; have HQ2 := Lib.hid hq2; have HX2 := Lib.hid (show Ext w (w2.setCell ⟨w.heap.size + 1, 0, none⟩ (.string ⟨r0.toArray⟩)) from Below.setCell (HWA.out.trans hq2) (by simp) _); clear hq2))
    | (go_at_call 38; go_loud (((with_reducible refine (HTR.out _).mono ?_); rintro e w6 ⟨rfl, rfl⟩)))
    | (go_at_call 37; go_loud (((with_reducible refine (HAT.out _ (HG.out.ext HX2.out)).mono ?_); rintro e w3 ⟨v, te, pe, rfl, hq3⟩; have HQ3 := Lib.hid hq3; clear hq3))))
  have HPI0 := Lib.hid (PI.start (n := v) (l := l) (r0 := r0) (tc := 24) (tb := 9) HQ2.out HQ3.out)
  clear HQ2 HQ3 HWA HTR HAT HNX HX2
  go_loopw [6, 7] (fun u b wr => ∃ (W : World), u = .string ⟨la.toArray⟩ ∧ b = .bool true ∧ Hid (PI v w.heap.size (w.heap.size + 1) w3.heap.size w W wr r0 [] (.slice none 0 0))) (fun _ _ _ => 0)
  case atStart => exact ⟨_, rfl, rfl, HPI0⟩
  case round =>
    clear HPI0
    obtain ⟨W, rfl, rfl, HP⟩ := hrel
    obtain ⟨k0, k1, k2, k3, k4, f0, f1, f2, z0, z1, z2⟩ := HP.out.facts
    go_wp2_with fail
    obtain ⟨y0, y1⟩ := res_cells (v0 := .int .i64 0) (v1 := .slice none 0 0) k0 k1
    exact bodyPost_ret (v := .tuple #[.agg #[.int .i64 0, .slice none 0 0], .int .i64 12]) (by simp [results, Tryz.f12, go_sem, y0, y1]) rfl (CParseR.no HCP.out rfl (Below.setCell (Below.setCell (HP.out.e0.trans HP.out.e1) (by simp) _) (by simp) _))
theorem cparse_any (l : List UInt8) (hl : l.length ≤ 1000000000) (w : World) (hg : Glob w) : Calls Tryz.prog 12 #[.string ⟨l.toArray⟩] w (CParseR l w) := by
  by_cases h : 20000 < l.length
  · exact cparse_long l h (by omega) w
  · cases hc : (cutF 10 l).2.2 with
    | false => exact cparse_cut l (by omega) hc w hg
    | true =>
      cases ha : atoiO (trimF (cutF 10 l).1) with
      | none => exact cparse_num l (by omega) hc ha w hg
      | some n => exact cparse_main l (by omega) n hc ha w hg
end Go.Proofs.YtjjhoonkooihjaaGreatDoor
