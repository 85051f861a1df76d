/- The reference's text of a valid chart. -/
import Derived.Test.YtjjhoonkooihjaaGreatDoorG07
import Derived.Test.YtjjhoonkooihjaaGreatDoorG17
import Derived.Test.YtjjhoonkooihjaaGreatDoorG12
import Derived.Test.YtjjhoonkooihjaaGreatDoorG00
import Derived.Test.YtjjhoonkooihjaaGreatDoorG09
import Derived.Test.YtjjhoonkooihjaaGreatDoorG06
import Derived.Test.YtjjhoonkooihjaaGreatDoorG03
namespace Go.Proofs.YtjjhoonkooihjaaGreatDoor
set_option maxRecDepth 100000
set_option maxRecDepth 100000
open Go.RowKit
theorem side_any (b : Bool) (w : World) : Calls Tryz.prog 57 #[.bool b] w fun e w' => e = .returned (.string ⟨(sideT b).toArray⟩) ∧ Ext w w' := by
  cases b
  · go_enter Tryz.func57, Tryz.ntmps57
    go_wp2_with fail
    go_ret
    exact ⟨rfl, by repeat (first | exact Ext.refl _ | assumption | refine Ext.alloc ?_ _ | refine Ext.drew ?_ | refine Ext.drewN ?_ _ | refine Ext.trans ?_ (by assumption))⟩
  · go_enter Tryz.func57, Tryz.ntmps57
    go_wp2_with fail
    go_ret
    exact ⟨rfl, by repeat (first | exact Ext.refl _ | assumption | refine Ext.alloc ?_ _ | refine Ext.drew ?_ | refine Ext.drewN ?_ _ | refine Ext.trans ?_ (by assumption))⟩
set_option maxHeartbeats 8000000 in
theorem cwritten_any (s : Int) (A : Option Addr) (m c : Nat) (rows : List Ro) (w : World) (hr : Rws w (fun _ => True) A m rows) (h0 : chkC s rows = 0) :
    Calls Tryz.prog 34 #[.agg #[.int .i64 s, .slice A m c]] w fun e w' => e = .returned (.tuple #[.string ⟨(chartL s rows).toArray⟩, .bool true]) ∧ Ext w w' := by
  have HR := Lib.hid hr
  obtain ⟨hl100, hs0, hs1, hall⟩ := chkC_facts h0
  have HAL := Lib.hid hall
  have hml : rows.length = m := hr.len
  have HBD := Lib.hid (fun (k : Nat) => rowsL_bd (l := rows.take k) (fun x hx => hall x (List.mem_of_mem_take hx)))
  have hb0 : Ext w (w.alloc (.cells #[.int .i64 s, .slice A m c] 24)) := (Ext.refl _).alloc _
  obtain ⟨sn, hsn⟩ : ∃ sn : Nat, s = (sn : Int) := ⟨s.toNat, by omega⟩
  have HIT := Lib.hid (fun w' => decimal_any sn (by omega) w')
  have hdl := dec_len sn
  obtain ⟨D, hD⟩ : ∃ D, decD sn = D := ⟨_, rfl⟩
  rw [hD] at HIT hdl
  obtain ⟨H1, hH1⟩ : ∃ H1, wStart ++ D = H1 := ⟨_, rfl⟩
  obtain ⟨H, hH⟩ : ∃ H, H1 ++ [10] = H := ⟨_, rfl⟩
  have hcat1 : (⟨#[115, 116, 97, 114, 116, 32]⟩ ++ ⟨D.toArray⟩ : ByteArray) = ⟨H1.toArray⟩ := by rw [← hH1]; exact str_app wStart D
  have hcat2 : (⟨H1.toArray⟩ ++ ⟨#[10]⟩ : ByteArray) = ⟨H.toArray⟩ := by rw [← hH]; exact str_app H1 [10]
  have hl1 : H1.length ≤ 26 := by rw [← hH1, List.length_append, show wStart.length = 6 from rfl]; omega
  have hl2 : H.length ≤ 27 := by rw [← hH, List.length_append, List.length_singleton]; omega
  have HCL := Lib.hid (show chartL s rows = H ++ rowsL rows by rw [chartL, ← hH, ← hH1, ← hD, hsn, Int.toNat_natCast])
  have hm100 : m ≤ 100 := by omega
  have HML := Lib.hid hml
  clear hr h0 hall hD hH1 hH hl100 hml
  subst hsn
  go_enter Tryz.func34, Tryz.ntmps34
  go_wp2_with (go_at_call 55; go_loud ((with_reducible refine (HIT.out _).mono ?_); rintro e w1 ⟨rfl, hq1⟩; have hb1 : Ext (w.alloc (.cells #[.int .i64 (sn : Int), .slice A m c] 24)) w1 := hq1))
  clear hcat1 hcat2
  go_loopw [4, 5] (fun u i wr => ∃ (k : Nat) (S : List UInt8), u = .string ⟨S.toArray⟩ ∧ i = .int .i64 k ∧ k ≤ m ∧ Hid (S = H ++ rowsL (rows.take k)) ∧ Hid (Ext (w.alloc (.cells #[.int .i64 (sn : Int), .slice A m c] 24)) wr)) (fun _ i _ => m - (intOf i).toNat)
  case atStart => exact ⟨0, H, rfl, rfl, by omega, Lib.hid (by simp [rowsL]), Lib.hid hb1⟩
  case round =>
    obtain ⟨k, S, rfl, rfl, hk, HS, HE3⟩ := hrel
    have HEW := Lib.hid (hb0.trans HE3.out)
    obtain ⟨hc3, hf3, hz3⟩ := HE3.out.facts
    have hsl : S.length ≤ 150000 := by
      have h9 := HBD.out k
      rw [HS.out, List.length_append]
      rw [List.length_take] at h9
      omega
    by_cases hlt : k < m
    · obtain ⟨b9, off9, A9, n9, c9, rfl, hlt9, -, d0, d1, hv9, hn9, hby9, -⟩ := (HR.out.ext HEW.out).at_ hlt
      have hz := World.block_lt_of_cell? wr _ d0
      have hml := HML.out
      have hok := HAL.out (rows.getD k ro0) (by rw [List.getD_eq_getElem?_getD, List.getElem?_eq_getElem (by omega)]; exact List.getElem_mem _)
      have hsn := rowsL_take (l := rows) (k := k) (by omega)
      generalize rows.getD k ro0 = r at *
      obtain ⟨rb, cs⟩ := r
      simp only at d0 d1 hv9 hby9 hok
      have HSN := Lib.hid hsn
      have hts := text_short hok
      have hn200 : n9 ≤ 200 := by rw [← hv9.1]; exact (allE_e hok).1
      have HST := Lib.hid (fun (w' : World) (hb : Ext wr w') => written_any n9 c9 A9 cs w' (hv9.ext hb) hn200 (allE_e hok).2.1)
      obtain ⟨T, hTT⟩ : ∃ T, textL cs = T := ⟨_, rfl⟩
      rw [hTT] at hts HST
      have hsd : (sideT rb).length ≤ 5 := by cases rb <;> decide
      have HSD0 := Lib.hid (fun w' => side_any rb w')
      obtain ⟨Q, hQ⟩ : ∃ Q, sideT rb = Q := ⟨_, rfl⟩
      have HSD := Lib.hid (show ∀ w', Calls Tryz.prog 57 #[.bool rb] w' fun e w'' => e = .returned (.string ⟨Q.toArray⟩) ∧ Ext w' w'' from fun w' => by rw [← hQ]; exact HSD0.out w')
      obtain ⟨SA, hSA⟩ : ∃ SA, S ++ Q = SA := ⟨_, rfl⟩
      have hca : (⟨S.toArray⟩ ++ ⟨Q.toArray⟩ : ByteArray) = ⟨SA.toArray⟩ := by rw [← hSA]; exact str_app S Q
      rw [hQ] at hsd
      have hla : SA.length ≤ 150010 := by rw [← hSA, List.length_append]; omega
      rw [← hQ] at hSA
      have q5 : (k : Int) < (m : Int) := by omega
      have q4 : (0 : Int) ≤ (k : Int) := by omega
      have q6 : ¬ ((3000 : Int) < (T.length : Int)) := by omega
      clear hsn hv9 hby9 hn9 hok hml hQ HSD0
      by_cases hT0 : T = []
      case pos =>
          obtain ⟨SD, hSD⟩ : ∃ SD, SA ++ [10] = SD := ⟨_, rfl⟩
          have hcd : (⟨SA.toArray⟩ ++ ⟨#[10]⟩ : ByteArray) = ⟨SD.toArray⟩ := by rw [← hSD]; exact str_app SA [10]
          have hq9 : (T == []) = true := by rw [hT0]; rfl
          have HL3 := Lib.hid (show SD = S ++ (rowL ⟨rb, cs⟩ ++ [10]) by rw [← hSD, ← hSA, rowL, hTT, if_pos hT0]; simp)
          clear hSD hSA hT0 hTT
          go_wp2_with (first
            | (go_at_call 56; go_loud ((with_reducible refine (HST.out _ (by repeat (first | exact Ext.refl _ | refine Ext.drew ?_ | refine Ext.drewN ?_ _ | refine Ext.alloc ?_ _))).mono ?_); rintro e w4 ⟨rfl, hq4⟩; have hb4 : Ext (w.alloc (.cells #[.int .i64 (sn : Int), .slice (some ⟨b9, off9, none⟩) m c] 24)) w4 := HE3.out.trans (Ext.trans (by repeat (first | exact Ext.refl _ | refine Ext.drew ?_ | refine Ext.drewN ?_ _ | refine Ext.alloc ?_ _)) hq4); obtain ⟨hc4, hf4, hz4⟩ := hb4.facts; have d2 := (Below.cell (p := ⟨b9, off9 + k * 2, none⟩) hq4 hlt9).trans d0))
            | (go_at_call 57; go_loud ((with_reducible refine (HSD.out _).mono ?_); rintro e w5 ⟨rfl, hq5⟩; have HB5 := Lib.hid (hb4.trans (Ext.trans (by repeat (first | exact Ext.refl _ | refine Ext.drew ?_ | refine Ext.drewN ?_ _ | refine Ext.alloc ?_ _)) hq5)))))
          go_roundw
          case rel => exact ⟨k + 1, SD, rfl, by go_num, by omega, Lib.hid (by rw [HL3.out, HS.out, HSN.out, List.append_assoc]), HB5⟩
          case measure => simp [intOf] <;> omega
      case neg =>
          obtain ⟨SB, hSB⟩ : ∃ SB, SA ++ [32] = SB := ⟨_, rfl⟩
          obtain ⟨SC, hSC⟩ : ∃ SC, SB ++ T = SC := ⟨_, rfl⟩
          obtain ⟨SD, hSD⟩ : ∃ SD, SC ++ [10] = SD := ⟨_, rfl⟩
          have hcb : (⟨SA.toArray⟩ ++ ⟨#[32]⟩ : ByteArray) = ⟨SB.toArray⟩ := by rw [← hSB]; exact str_app SA [32]
          have hcc : (⟨SB.toArray⟩ ++ ⟨T.toArray⟩ : ByteArray) = ⟨SC.toArray⟩ := by rw [← hSC]; exact str_app SB T
          have hcd : (⟨SC.toArray⟩ ++ ⟨#[10]⟩ : ByteArray) = ⟨SD.toArray⟩ := by rw [← hSD]; exact str_app SC [10]
          have hlb : SB.length ≤ 200000 := by rw [← hSB, List.length_append, List.length_singleton]; omega
          have hlc : SC.length ≤ 202000 := by rw [← hSC, List.length_append]; omega
          have hq9 : (T == []) = false := by simpa using hT0
          have HL3 := Lib.hid (show SD = S ++ (rowL ⟨rb, cs⟩ ++ [10]) by rw [← hSD, ← hSC, ← hSB, ← hSA, rowL, hTT, if_neg hT0]; simp)
          clear hSB hSC hSD hSA hT0 hTT
          go_wp2_with (first
            | (go_at_call 56; go_loud ((with_reducible refine (HST.out _ (by repeat (first | exact Ext.refl _ | refine Ext.drew ?_ | refine Ext.drewN ?_ _ | refine Ext.alloc ?_ _))).mono ?_); rintro e w4 ⟨rfl, hq4⟩; have hb4 : Ext (w.alloc (.cells #[.int .i64 (sn : Int), .slice (some ⟨b9, off9, none⟩) m c] 24)) w4 := HE3.out.trans (Ext.trans (by repeat (first | exact Ext.refl _ | refine Ext.drew ?_ | refine Ext.drewN ?_ _ | refine Ext.alloc ?_ _)) hq4); obtain ⟨hc4, hf4, hz4⟩ := hb4.facts; have d2 := (Below.cell (p := ⟨b9, off9 + k * 2, none⟩) hq4 hlt9).trans d0))
            | (go_at_call 57; go_loud ((with_reducible refine (HSD.out _).mono ?_); rintro e w5 ⟨rfl, hq5⟩; have HB5 := Lib.hid (hb4.trans (Ext.trans (by repeat (first | exact Ext.refl _ | refine Ext.drew ?_ | refine Ext.drewN ?_ _ | refine Ext.alloc ?_ _)) hq5)))))
          go_roundw
          case rel => exact ⟨k + 1, SD, rfl, by go_num, by omega, Lib.hid (by rw [HL3.out, HS.out, HSN.out, List.append_assoc]), HB5⟩
          case measure => simp [intOf] <;> omega
    · obtain rfl : k = m := by omega
      have hfin : S = chartL (sn : Int) rows := by
        rw [HS.out, List.take_of_length_le (Nat.le_of_eq HML.out), HCL.out]
      have HF := Lib.hid hfin
      clear hfin
      go_wp2_with fail
      go_ret2
      exact ⟨by rw [HF.out]; rfl, HEW.out⟩
end Go.Proofs.YtjjhoonkooihjaaGreatDoor
/- The reference's Text of a chart. -/
namespace Go.Proofs.YtjjhoonkooihjaaGreatDoor
set_option maxRecDepth 100000
set_option maxRecDepth 100000
open Go.RowKit
set_option maxHeartbeats 4000000 in
theorem crtext_main (s : Int) (A : Option Addr) (m c : Nat) (rows : List Ro) (w : World) (hr : Rws w (fun _ => True) A m rows) (V : List UInt8) (E : Int) (hV : V = ctextV s rows) (hE : E = ctextE s rows) :
    Calls Tryz.prog 11 #[.agg #[.int .i64 s, .slice A m c]] w fun e w' => e = .returned (.tuple #[.string ⟨V.toArray⟩, .int .i64 E]) ∧ Ext w w' := by
  have HR := Lib.hid hr
  have hb0 : Ext w (w.alloc (.cells #[.int .i64 s, .slice A m c] 24)) := (Ext.refl _).alloc _
  by_cases h0 : chkC s rows = 0
  · have HC := Lib.hid h0
    have HW := Lib.hid (fun (w' : World) (hb : Ext w w') => cwritten_any s A m c rows w' (hr.ext hb) h0)
    have hce : ctextE s rows = if 20000 < (chartL s rows).length then 4 else 0 := by rw [ctextE, h0]; rfl
    have hcv : V = if ctextE s rows = 0 then chartL s rows else [] := hV
    rw [hce] at hcv hE
    clear hce hr h0 hV
    generalize chartL s rows = X at *
    by_cases hX : 20000 < X.length
    · have q1 : (20000 : Int) < (X.length : Int) := by omega
      rw [if_pos hX] at hcv hE
      rw [if_neg (by omega)] at hcv
      subst hcv
      subst hE
      clear hX
      go_enter Tryz.func11, Tryz.ntmps11
      go_wp2_with (first
        | (go_at_call 16; go_loud ((with_reducible refine (rccheck_any s A m c rows _ (HR.out.ext (hb0.trans (by repeat (first | exact Ext.refl _ | refine Ext.drew ?_ | refine Ext.drewN ?_ _ | refine Ext.alloc ?_ _))))).mono ?_); rintro e w1 ⟨rfl, hq1⟩; rw [HC.out]; have hb1 : Ext (w.alloc (.cells #[.int .i64 s, .slice A m c] 24)) w1 := hq1; obtain ⟨hc1, hf1, hz1⟩ := hb1.facts))
        | (go_at_call 34; go_loud ((with_reducible refine (HW.out _ (hb0.trans (hb1.trans (by repeat (first | exact Ext.refl _ | refine Ext.drew ?_ | refine Ext.drewN ?_ _ | refine Ext.alloc ?_ _))))).mono ?_); rintro e w2 ⟨rfl, hq2⟩; have HB2 := Lib.hid (hb0.trans (hb1.trans (Ext.trans (by repeat (first | exact Ext.refl _ | refine Ext.drew ?_ | refine Ext.drewN ?_ _ | refine Ext.alloc ?_ _)) hq2))))))
      go_ret2
      exact ⟨rfl, HB2.out⟩
    · have q1 : ¬ (20000 : Int) < (X.length : Int) := by omega
      rw [if_neg hX] at hcv hE
      rw [if_pos rfl] at hcv
      subst hcv
      subst hE
      clear hX
      go_enter Tryz.func11, Tryz.ntmps11
      go_wp2_with (first
        | (go_at_call 16; go_loud ((with_reducible refine (rccheck_any s A m c rows _ (HR.out.ext (hb0.trans (by repeat (first | exact Ext.refl _ | refine Ext.drew ?_ | refine Ext.drewN ?_ _ | refine Ext.alloc ?_ _))))).mono ?_); rintro e w1 ⟨rfl, hq1⟩; rw [HC.out]; have hb1 : Ext (w.alloc (.cells #[.int .i64 s, .slice A m c] 24)) w1 := hq1; obtain ⟨hc1, hf1, hz1⟩ := hb1.facts))
        | (go_at_call 34; go_loud ((with_reducible refine (HW.out _ (hb0.trans (hb1.trans (by repeat (first | exact Ext.refl _ | refine Ext.drew ?_ | refine Ext.drewN ?_ _ | refine Ext.alloc ?_ _))))).mono ?_); rintro e w2 ⟨rfl, hq2⟩; have HB2 := Lib.hid (hb0.trans (hb1.trans (Ext.trans (by repeat (first | exact Ext.refl _ | refine Ext.drew ?_ | refine Ext.drewN ?_ _ | refine Ext.alloc ?_ _)) hq2))))))
      go_ret2
      exact ⟨rfl, HB2.out⟩
  · have e1 : ctextE s rows = chkC s rows := by rw [ctextE, if_pos h0]
    have e2 : ctextV s rows = [] := by rw [ctextV, e1, if_neg h0]
    rw [e1] at hE
    rw [e2] at hV
    subst hV
    have HX := Lib.hid hE.symm
    have hne : (E != 0) = true := by rw [hE]; simpa using h0
    clear hE e1 e2 h0 hr
    go_enter Tryz.func11, Tryz.ntmps11
    go_wp2_with (go_at_call 16; (first
      | ((with_reducible refine (rccheck_any s A m c rows _ (HR.out.ext (hb0.trans (hb1.trans (by repeat (first | exact Ext.refl _ | refine Ext.drew ?_ | refine Ext.drewN ?_ _ | refine Ext.alloc ?_ _)))))).mono ?_); rintro e w2 ⟨rfl, hq2⟩; rw [HX.out]; have HB2 := Lib.hid (hb0.trans (hb1.trans (Ext.trans (by repeat (first | exact Ext.refl _ | refine Ext.drew ?_ | refine Ext.drewN ?_ _ | refine Ext.alloc ?_ _)) hq2))))
      | ((with_reducible refine (rccheck_any s A m c rows _ (HR.out.ext (hb0.trans (by repeat (first | exact Ext.refl _ | refine Ext.drew ?_ | refine Ext.drewN ?_ _ | refine Ext.alloc ?_ _))))).mono ?_); rintro e w1 ⟨rfl, hq1⟩; rw [HX.out]; have hb1 : Ext (w.alloc (.cells #[.int .i64 s, .slice A m c] 24)) w1 := hq1; obtain ⟨hc1, hf1, hz1⟩ := hb1.facts)))
    go_ret2
    exact ⟨rfl, HB2.out⟩
theorem crtext_any (s : Int) (A : Option Addr) (m c : Nat) (rows : List Ro) (w : World) (hr : Rws w (fun _ => True) A m rows) :
    Calls Tryz.prog 11 #[.agg #[.int .i64 s, .slice A m c]] w fun e w' => e = .returned (.tuple #[.string ⟨(ctextV s rows).toArray⟩, .int .i64 (ctextE s rows)]) ∧ Ext w w' :=
  crtext_main s A m c rows w hr _ _ rfl rfl
end Go.Proofs.YtjjhoonkooihjaaGreatDoor
/- The reference's Parse of charts in plain Lean: it reads what Parse reads. -/
namespace Go.Proofs.YtjjhoonkooihjaaGreatDoor
set_option maxRecDepth 100000
def rrowP (line : List UInt8) : Option Ro :=
  if (cutF 32 line).1 = sideT false ∨ (cutF 32 line).1 = sideT true then
    if (cutF 32 line).2.2 = true then (parseL (cutF 32 line).2.1).map fun l => ⟨decide ((cutF 32 line).1 = sideT true), l⟩
    else some ⟨decide ((cutF 32 line).1 = sideT true), []⟩
  else none
def rrowsP : List Ro → List (List UInt8) → Option (List Ro)
  | acc, [] => some acc
  | acc, x :: xs => match rrowP x with
    | none => none
    | some r => rrowsP (acc ++ [r]) xs
def rchartP (s : List UInt8) : Option (Int × List Ro) :=
  if 20000 < s.length then none else
  if (spl 10 s).length < 2 ∨ 102 < (spl 10 s).length ∨ ((spl 10 s).getD 0 []).length < 7 ∨ ¬ ((spl 10 s).getD 0 []).take 6 = wStart then none else
  match numS (((spl 10 s).getD 0 []).drop 6) with
  | none => none
  | some n => (rrowsP [] (((spl 10 s).drop 1).take ((spl 10 s).length - 2))).bind fun l => if chkC n l = 0 ∧ chartL n l = s then some ((n : Int), l) else none
theorem rrow_back {r : Ro} (h : allE r.cells = 0) : rrowP (rowL r) = some r := by
  obtain ⟨b, cs⟩ := r
  have h32 : (32 : UInt8) ∉ sideT b := by cases b <;> decide
  have hsd : decide (sideT b = sideT true) = b := by cases b <;> decide
  have hor : sideT b = sideT false ∨ sideT b = sideT true := by cases b <;> simp
  unfold rrowP rowL
  simp only at h ⊢
  by_cases h0 : textL cs = []
  · rw [if_pos h0, List.append_nil, cutF_miss h32]
    obtain rfl := text_empty h h0
    simp only [if_pos hor, hsd]
    rfl
  · rw [if_neg h0, cutF_hit h32]
    simp only [if_pos hor, parse_text h, Option.map_some, hsd, if_true]
theorem rrows_back : ∀ {l : List Ro} {acc : List Ro}, (∀ r ∈ l, allE r.cells = 0) → rrowsP acc (l.map rowL) = some (acc ++ l) := by
  intro l
  induction l with
  | nil => intro acc _; simp [rrowsP]
  | cons r l ih =>
    intro acc h
    rw [List.map_cons, rrowsP, rrow_back (h r (by simp))]
    simp only
    rw [ih (fun x hx => h x (by simp [hx]))]
    simp
theorem spl_rows : ∀ {l : List Ro}, (∀ r ∈ l, allE r.cells = 0) → spl 10 (rowsL l) = l.map rowL ++ [[]] := by
  intro l
  induction l with
  | nil => intro _; rfl
  | cons r l ih =>
    intro h
    have e : rowsL (r :: l) = rowL r ++ 10 :: rowsL l := by simp [rowsL]
    rw [e, spl_cons (row_line (h r (by simp))), ih (fun x hx => h x (by simp [hx]))]
    simp
def rnumOk (k : Nat) : Bool := decide (numS (decD k) = some k) && decide (0 < (decD k).length)
theorem rnums_ok : (List.range 201).all rnumOk = true := by decide +kernel
theorem rchart_back {s : Int} {l : List Ro} (h : chkC s l = 0) (hlen : (chartL s l).length ≤ 20000) : rchartP (chartL s l) = some (s, l) := by
  obtain ⟨h1, h2, h3, h4⟩ := chkC_facts h
  have h5 := List.all_eq_true.1 nums_ok s.toNat (List.mem_range.2 (by omega))
  simp only [numOk, Bool.and_eq_true, decide_eq_true_eq, Bool.not_eq_true'] at h5
  have h6 := List.all_eq_true.1 rnums_ok s.toNat (List.mem_range.2 (by omega))
  simp only [rnumOk, Bool.and_eq_true, decide_eq_true_eq] at h6
  have hn : (10 : UInt8) ∉ wStart ++ decD s.toNat := fun h9 => by
    have := List.contains_iff_mem.2 h9
    rw [h5.2] at this
    cases this
  have e : chartL s l = (wStart ++ decD s.toNat) ++ 10 :: rowsL l := by simp [chartL]
  have hc : spl 10 (chartL s l) = (wStart ++ decD s.toNat) :: (l.map rowL ++ [[]]) := by rw [e, spl_cons hn, spl_rows h4]
  rw [rchartP, if_neg (by omega), hc]
  have hcnd : ¬ (((wStart ++ decD s.toNat) :: (l.map rowL ++ [[]])).length < 2 ∨ 102 < ((wStart ++ decD s.toNat) :: (l.map rowL ++ [[]])).length ∨ (((wStart ++ decD s.toNat) :: (l.map rowL ++ [[]])).getD 0 []).length < 7 ∨ ¬ (((wStart ++ decD s.toNat) :: (l.map rowL ++ [[]])).getD 0 []).take 6 = wStart) := by
    have hw : wStart.length = 6 := rfl
    rintro (h9 | h9 | h9 | h9)
    · simp at h9; omega
    · simp at h9; omega
    · simp only [List.getD_cons_zero, List.length_append] at h9; omega
    · apply h9
      rw [List.getD_cons_zero, List.take_append_of_le_length (by omega), List.take_of_length_le (by omega)]
  rw [if_neg hcnd]
  have hd : (((wStart ++ decD s.toNat) :: (l.map rowL ++ [[]])).getD 0 []).drop 6 = decD s.toNat := by
    rw [List.getD_cons_zero]
    rfl
  rw [hd, h6.1]
  simp only
  have ht : ((((wStart ++ decD s.toNat) :: (l.map rowL ++ [[]])).drop 1).take (((wStart ++ decD s.toNat) :: (l.map rowL ++ [[]])).length - 2)) = l.map rowL := by
    rw [List.drop_succ_cons, List.drop_zero]
    have hl : ((wStart ++ decD s.toNat) :: (l.map rowL ++ [[]])).length - 2 = (l.map rowL).length := by simp
    rw [hl, List.take_append_of_le_length (Nat.le_refl _), List.take_of_length_le (Nat.le_refl _)]
  rw [ht, rrows_back h4, Option.bind_some, List.nil_append]
  have es : ((s.toNat : Nat) : Int) = s := by omega
  rw [es, if_pos ⟨h, rfl⟩]
theorem rchart_iff {t : List UInt8} {s : Int} {l : List Ro} : rchartP t = some (s, l) ↔ t.length ≤ 20000 ∧ chkC s l = 0 ∧ chartL s l = t := by
  constructor
  · intro h
    unfold rchartP at h
    split at h
    · cases h
    · split at h
      · cases h
      · split at h
        · cases h
        · obtain ⟨l', _, h3⟩ := Option.bind_eq_some_iff.1 h
          split at h3
          · rename_i h4
            cases h3
            exact ⟨by omega, h4⟩
          · cases h3
  · rintro ⟨h1, h2, rfl⟩
    exact rchart_back h2 h1
/-- both read the same -/
theorem rchart_eq (t : List UInt8) : rchartP t = chartP t := by
  apply Option.ext
  rintro ⟨s, l⟩
  rw [rchart_iff, chart_iff]
end Go.Proofs.YtjjhoonkooihjaaGreatDoor
/- The reference's Cut, Number and kind. -/
namespace Go.Proofs.YtjjhoonkooihjaaGreatDoor
set_option maxRecDepth 100000
set_option maxRecDepth 100000
open Go.RowKit
theorem str_mid (l : List UInt8) (f k : Nat) : (⟨l.toArray⟩ : ByteArray).extract f k = ⟨((l.drop f).take (k - f)).toArray⟩ := by
  apply ByteArray.ext
  apply Array.toList_inj.1
  rw [Lib.extract_data]
theorem spl_last {c : UInt8} {l : List UInt8} {f : Nat} (h : c ∉ (l.drop f).take (l.length - f)) : spl c (l.drop f) = [(l.drop f).take (l.length - f)] := by
  have e : (l.drop f).take (l.length - f) = l.drop f := List.take_of_length_le (by simp)
  rw [e] at h ⊢
  exact spl_word h
theorem spl_at {c : UInt8} {l : List UInt8} {f k : Nat} (hf : f ≤ k) (hk : k < l.length) (h : c ∉ (l.drop f).take (k - f)) (hc : l.getD k 0 = c) : spl c (l.drop f) = (l.drop f).take (k - f) :: spl c (l.drop (k + 1)) := by
  have e : l.drop f = (l.drop f).take (k - f) ++ c :: l.drop (k + 1) := by
    conv => lhs; rw [← List.take_append_drop (k - f) (l.drop f)]
    rw [List.drop_drop, show f + (k - f) = k by omega, List.drop_eq_getElem_cons hk]
    rw [List.getD_eq_getElem?_getD, List.getElem?_eq_getElem hk] at hc
    have hc : l[k] = c := hc
    rw [hc]
  conv => lhs; rw [e]
  rw [spl_cons h]
theorem take_next {c : UInt8} {l : List UInt8} {f k : Nat} (hf : f ≤ k) (hk : k < l.length) (h : c ∉ (l.drop f).take (k - f)) (hc : ¬ l.getD k 0 = c) : c ∉ (l.drop f).take (k + 1 - f) := by
  rw [show k + 1 - f = (k - f) + 1 by omega, List.take_add_one]
  intro h9
  rcases List.mem_append.1 h9 with h9 | h9
  · exact h h9
  · rw [List.getElem?_drop, show f + (k - f) = k by omega, List.getElem?_eq_getElem hk] at h9
    apply hc
    rw [List.getD_eq_getElem?_getD, List.getElem?_eq_getElem hk]
    simp at h9
    exact h9.symm
/-- how far Cut has come -/
structure CutAt (c : UInt8) (l : List UInt8) (k f : Nat) (ws : List (List UInt8)) : Prop where
  mid : k ≤ l.length → f ≤ k ∧ ws ++ spl c (l.drop f) = spl c l ∧ c ∉ (l.drop f).take (k - f)
  fin : k = l.length + 1 → ws = spl c l
set_option maxHeartbeats 4000000 in
theorem cut_any (c : UInt8) (l : List UInt8) (hl : l.length ≤ 100000) (w : World) :
    Calls Tryz.prog 40 #[.string ⟨l.toArray⟩, .int .u8 (c.toNat : Int)] w fun e w' => ∃ v, e = .returned v ∧ OwnV shStr w' w.heap.size 9 v (spl c l).length (spl c l) ∧ Ext w w' := by
  have hx := fun f k => str_mid l f k
  go_enter Tryz.func40, Tryz.ntmps40
  go_wp2_with fail
  go_loopw [5, 6, 7] (fun u i j wr => ∃ (V : Value) (f k m : Nat) (ws : List (List UInt8)), V = u ∧ i = .int .i64 f ∧ j = .int .i64 k ∧ k ≤ l.length + 1 ∧ f ≤ k ∧ m ≤ k ∧ Hid (OwnV shStr wr w.heap.size 9 V m ws) ∧ Hid (CutAt c l k f ws) ∧ Hid (Ext w wr)) (fun _ _ j _ => l.length + 1 - (intOf j).toNat)
  case atStart => exact ⟨_, 0, 0, 0, [], rfl, rfl, rfl, by omega, by omega, by omega, Lib.hid (OwnV.nil _ _ _ _), Lib.hid ⟨fun _ => ⟨by omega, rfl, by simp⟩, fun h => by omega⟩, Lib.hid (Ext.refl _)⟩
  case round =>
    obtain ⟨V, f, k, m, ws, rfl, rfl, rfl, hk, hfk, hmk, HV, HC, HE⟩ := hrel
    have q0 : (0 : Int) ≤ (f : Int) := by omega
    have q1 : (f : Int) ≤ (k : Int) := by omega
    have q9 : (0 : Int) ≤ (k : Int) := by omega
    by_cases h1 : k = l.length + 1
    · subst h1
      have HF := Lib.hid (HC.out.fin rfl)
      obtain rfl : m = ws.length := (OwnV.len HV.out).symm
      have hno : ¬ ((l.length : Int) + 1 ≤ (l.length : Int)) := by omega
      go_wp2_with fail
      go_ret
      exact ⟨V, rfl, by rw [← HF.out]; exact HV.out, HE.out⟩
    · obtain ⟨hf, hm, hn⟩ := HC.out.mid (by omega)
      have q2 : (k : Int) ≤ (l.length : Int) := by omega
      by_cases h2 : k = l.length
      · subst h2
        have HL := Lib.hid (spl_last hn)
        rw [HL.out] at hm
        have HM := Lib.hid hm
        clear hm hn HC HL hf
        go_wp2_with (at_builtin; go_loud (refine wpList_append_vecsB (S := shStr) (w := w) (m := 1) (xs := [(l.drop f).take (l.length - f)]) 58 9 (.string ⟨#[]⟩) 16 (by rfl) (by rfl) Tryz.underlying58 info_str (by rfl) (by omega) (by rfl) (by rfl) (OwnV.ext HV.out (by repeat (first | exact Ext.refl _ | refine Ext.alloc ?_ _))) (HE.out.trans (by repeat (first | exact Ext.refl _ | refine Ext.alloc ?_ _))) (Vec.lit2 (by simp) rfl rfl) (by omega) ?_; intro v' w6 hown6 hext6 hgr6))
        have HN := Lib.hid hown6
        clear hown6 hgr6
        go_roundw
        case rel => exact ⟨v', l.length + 1, l.length + 1, m + 1, _, rfl, by go_num, by go_num, by omega, by omega, by omega, HN, Lib.hid ⟨fun h => by omega, fun _ => HM.out⟩, hext6⟩
        case measure => simp [intOf] <;> omega
      · have q3 : (k : Int) < (l.length : Int) := by omega
        have h5 := str_at l k
        have q7 : ((k : Int) == (l.length : Int)) = false := by rw [beq_eq_false_iff_ne]; omega
        by_cases hc : l.getD k 0 = c
        · have HL := Lib.hid (spl_at hf (by omega) hn hc)
          rw [HL.out] at hm
          have HM := Lib.hid hm
          rw [hc] at h5
          clear hm hn HC HL hf hc
          go_wp2_with (at_builtin; go_loud (refine wpList_append_vecsB (S := shStr) (w := w) (m := 1) (xs := [(l.drop f).take (k - f)]) 58 9 (.string ⟨#[]⟩) 16 (by rfl) (by rfl) Tryz.underlying58 info_str (by rfl) (by omega) (by rfl) (by rfl) (OwnV.ext HV.out (by repeat (first | exact Ext.refl _ | refine Ext.alloc ?_ _))) (HE.out.trans (by repeat (first | exact Ext.refl _ | refine Ext.alloc ?_ _))) (Vec.lit2 (by simp) rfl rfl) (by omega) ?_; intro v' w6 hown6 hext6 hgr6))
          have HN := Lib.hid hown6
          clear hown6 hgr6
          go_roundw
          case rel => exact ⟨v', k + 1, k + 1, m + 1, _, rfl, by go_num, by go_num, by omega, by omega, by omega, HN, Lib.hid ⟨fun h => ⟨by omega, by rw [List.append_assoc]; exact HM.out, by simp⟩, fun h => by omega⟩, hext6⟩
          case measure => simp [intOf] <;> omega
        · have hne : (((l.getD k 0).toNat : Int) == (c.toNat : Int)) = false := by rw [beq_eq_false_iff_ne]; exact fun h => hc (UInt8.toNat_inj.1 (by omega))
          have HN := Lib.hid (take_next hf (by omega) hn hc)
          have HM := Lib.hid hm
          generalize l.getD k 0 = d at *
          clear hm hn HC hc
          go_wp2_with fail
          go_roundw
          case rel => exact ⟨V, f, k + 1, m, ws, rfl, rfl, by go_num, by omega, by omega, by omega, HV, Lib.hid ⟨fun h => ⟨by omega, HM.out, HN.out⟩, fun h => by omega⟩, HE⟩
          case measure => simp [intOf] <;> omega
end Go.Proofs.YtjjhoonkooihjaaGreatDoor
/- The reference's Number and kind. -/
namespace Go.Proofs.YtjjhoonkooihjaaGreatDoor
set_option maxRecDepth 100000
set_option maxRecDepth 100000
open Go.RowKit
theorem valD_next {l : List UInt8} {k : Nat} (hk : k < l.length) : valD (l.take (k + 1)) = 10 * valD (l.take k) + ((l.getD k 0).toNat - 48) := by
  rw [List.take_add_one, List.getElem?_eq_getElem hk, List.getD_eq_getElem?_getD, List.getElem?_eq_getElem hk]
  unfold valD
  rw [List.foldl_append]
  rfl
theorem all_next {l : List UInt8} {k : Nat} (hk : k < l.length) : (l.take (k + 1)).all isDg = ((l.take k).all isDg && isDg (l.getD k 0)) := by
  rw [List.take_add_one, List.getElem?_eq_getElem hk, List.getD_eq_getElem?_getD, List.getElem?_eq_getElem hk]
  rw [List.all_append, show (some l[k]).toList = [l[k]] from rfl, List.all_cons, List.all_nil, Bool.and_true]
  rfl
theorem all_not {l : List UInt8} {k : Nat} (hk : k < l.length) (h : isDg (l.getD k 0) = false) : l.all isDg = false := by
  rw [Bool.eq_false_iff]
  intro h9
  rw [List.getD_eq_getElem?_getD, List.getElem?_eq_getElem hk] at h
  have := List.all_eq_true.1 h9 l[k] (List.getElem_mem _)
  rw [show (some l[k]).getD 0 = l[k] from rfl] at h
  rw [h] at this
  cases this
/-- what Number returns -/
def numN (l : List UInt8) : Int := (((numS l).getD 0 : Nat) : Int)
def NumR (l : List UInt8) (w : World) (e : Ending) (w' : World) : Prop := e = .returned (.tuple #[.int .i64 (numN l), .bool (numS l).isSome]) ∧ Ext w w'
theorem num_no {l : List UInt8} {w w' : World} (h : numS l = none) (hb : Ext w w') : NumR l w (.returned (.tuple #[.int .i64 0, .bool false])) w' := by
  refine ⟨?_, hb⟩
  unfold numN
  rw [h]
  rfl
theorem num_yes {l : List UInt8} {n : Nat} {w w' : World} (h : numS l = some n) (hb : Ext w w') : NumR l w (.returned (.tuple #[.int .i64 (n : Int), .bool true])) w' := by
  refine ⟨?_, hb⟩
  unfold numN
  rw [h]
  rfl
set_option maxHeartbeats 4000000 in
theorem refnumber_any (l : List UInt8) (hl : l.length ≤ 100000) (w : World) : Calls Tryz.prog 41 #[.string ⟨l.toArray⟩] w (NumR l w) := by
  by_cases h0 : l.length = 0
  · have HN := Lib.hid (show numS l = none by rw [numS, if_pos (.inl h0)])
    have q : (l.length : Int) = 0 := by omega
    go_enter Tryz.func41, Tryz.ntmps41
    go_wp2_with fail
    go_ret2
    exact num_no HN.out (Ext.refl _)
  by_cases h4 : 4 < l.length
  · have HN := Lib.hid (show numS l = none by rw [numS, if_pos (.inr (.inl h4))])
    have q : (4 : Int) < (l.length : Int) := by omega
    have q0 : ¬ ((l.length : Int) = 0) := by omega
    go_enter Tryz.func41, Tryz.ntmps41
    go_wp2_with fail
    go_ret2
    exact num_no HN.out (Ext.refl _)
  have p0 : ¬ ((l.length : Int) = 0) := by omega
  have p4 : ¬ ((4 : Int) < (l.length : Int)) := by omega
  have h50 := str_at l 0
  by_cases h1 : 1 < l.length
  · have p1 : (1 : Int) < (l.length : Int) := by omega
    by_cases hz : l.getD 0 0 = 48
    · have hh : l.head? = some 48 := by
        rw [List.head?_eq_getElem?, List.getElem?_eq_getElem (by omega)]
        rw [List.getD_eq_getElem?_getD, List.getElem?_eq_getElem (by omega)] at hz
        exact congrArg some hz
      have HN := Lib.hid (show numS l = none by rw [numS, if_pos (.inr (.inr ⟨h1, hh⟩))])
      clear hh
      rw [hz] at h50
      clear hz
      go_enter Tryz.func41, Tryz.ntmps41
      go_wp2_with fail
      go_ret2
      exact num_no HN.out (Ext.refl _)
    · have hsp : ¬ (l.length = 0 ∨ 4 < l.length ∨ (1 < l.length ∧ l.head? = some 48)) := by
        rintro (h | h | ⟨-, h⟩)
        · omega
        · omega
        · apply hz
          rw [List.head?_eq_getElem?, List.getElem?_eq_getElem (by omega)] at h
          rw [List.getD_eq_getElem?_getD, List.getElem?_eq_getElem (by omega)]
          exact Option.some.inj h
      have HYES := Lib.hid (fun (h : l.all isDg = true) => (show numS l = some (valD l) by rw [numS, if_neg hsp, if_pos h]))
      have HNO := Lib.hid (fun (h : l.all isDg = false) => (show numS l = none by rw [numS, if_neg hsp, if_neg (by rw [h]; simp)]))
      have hne : (((l.getD 0 0).toNat : Int) == 48) = false := by
        rw [beq_eq_false_iff_ne]
        intro h
        exact hz (UInt8.toNat_inj.1 (by rw [show (48 : UInt8).toNat = 48 from rfl]; omega))
      clear hsp hz
      generalize l.getD 0 0 = z0 at *
      go_enter Tryz.func41, Tryz.ntmps41
      go_wp2_with fail
      go_loopw [4, 5] (fun x i wr => ∃ k : Nat, x = .int .i64 (valD (l.take k) : Int) ∧ i = .int .i64 k ∧ k ≤ l.length ∧ Hid ((l.take k).all isDg = true) ∧ Hid (Ext w wr)) (fun _ i _ => l.length - (intOf i).toNat)
      case atStart => exact ⟨0, rfl, rfl, by omega, Lib.hid rfl, Lib.hid (Ext.refl _)⟩
      case round =>
        obtain ⟨k, rfl, rfl, hk, HA, HE⟩ := hrel
        have hvs := valD_small HA.out (by rw [List.length_take]; omega)
        have q0 : (0 : Int) ≤ (k : Int) := by omega
        by_cases h1 : k < l.length
        · have q1 : (k : Int) < (l.length : Int) := by omega
          have h5 := str_at l k
          by_cases hd : isDg (l.getD k 0) = true
          · have hv := valD_next h1
            have ha := all_next h1
            rw [HA.out, hd] at ha
            have HA2 := Lib.hid ha
            obtain ⟨d1, d2⟩ := dg_val hd
            have HV := Lib.hid hv
            generalize l.getD k 0 = d at *
            generalize valD (l.take k) = V at *
            clear hv ha hd
            have e1 : ((d.toNat : Int) < 48) = False := by simp <;> omega
            have e2 : ((57 : Int) < (d.toNat : Int)) = False := by simp <;> omega
            have i1 := IntWalk.i64_in (10 * (V : Int)) ⟨by omega, by omega⟩
            have i2 := IntWalk.i64_in (10 * (V : Int) + ((d.toNat : Int) - 48)) ⟨by omega, by omega⟩
            have i3 : IntKind.u8.wrap ((d.toNat : Int) - 48) = (d.toNat : Int) - 48 := by rw [IntKind.wrap_u8]; omega
            have i4 := IntWalk.i64_in ((d.toNat : Int) - 48) ⟨by omega, by omega⟩
            go_wp2_with fail
            go_roundw
            case rel => exact ⟨k + 1, by rw [HV.out]; congr 1; omega, by go_num, by omega, HA2, HE⟩
            case measure => simp [intOf] <;> omega
          · have hd : isDg (l.getD k 0) = false := by simpa using hd
            have HN := Lib.hid (HNO.out (all_not h1 hd))
            have hcm : ((l.getD k 0).toNat : Int) < 48 ∨ (57 : Int) < ((l.getD k 0).toNat : Int) := by
              rw [isDg, Bool.and_eq_false_iff, decide_eq_false_iff_not, decide_eq_false_iff_not, UInt8.le_iff_toNat_le, UInt8.le_iff_toNat_le] at hd
              have e48 : (48 : UInt8).toNat = 48 := rfl
              have e57 : (57 : UInt8).toNat = 57 := rfl
              omega
            generalize l.getD k 0 = d at *
            clear hd
            rcases hcm with e1 | e1
            · go_wp2_with fail
              go_ret2
              exact num_no HN.out HE.out
            · have e2 : ¬ ((d.toNat : Int) < 48) := by omega
              go_wp2_with fail
              go_ret2
              exact num_no HN.out HE.out
        · obtain rfl : k = l.length := by omega
          have e9 : l.take l.length = l := List.take_of_length_le (Nat.le_refl _)
          rw [e9] at HA ⊢
          have HY := Lib.hid (HYES.out HA.out)
          go_wp2_with fail
          go_ret2
          exact num_yes HY.out HE.out
  · have p1 : ¬ ((1 : Int) < (l.length : Int)) := by omega
    have hsp : ¬ (l.length = 0 ∨ 4 < l.length ∨ (1 < l.length ∧ l.head? = some 48)) := by
      rintro (h | h | ⟨h, -⟩) <;> omega
    have HYES := Lib.hid (fun (h : l.all isDg = true) => (show numS l = some (valD l) by rw [numS, if_neg hsp, if_pos h]))
    have HNO := Lib.hid (fun (h : l.all isDg = false) => (show numS l = none by rw [numS, if_neg hsp, if_neg (by rw [h]; simp)]))
    clear hsp h50
    go_enter Tryz.func41, Tryz.ntmps41
    go_wp2_with fail
    go_loopw [4, 5] (fun x i wr => ∃ k : Nat, x = .int .i64 (valD (l.take k) : Int) ∧ i = .int .i64 k ∧ k ≤ l.length ∧ Hid ((l.take k).all isDg = true) ∧ Hid (Ext w wr)) (fun _ i _ => l.length - (intOf i).toNat)
    case atStart => exact ⟨0, rfl, rfl, by omega, Lib.hid rfl, Lib.hid (Ext.refl _)⟩
    case round =>
      obtain ⟨k, rfl, rfl, hk, HA, HE⟩ := hrel
      have hvs := valD_small HA.out (by rw [List.length_take]; omega)
      have q0 : (0 : Int) ≤ (k : Int) := by omega
      by_cases h1 : k < l.length
      · have q1 : (k : Int) < (l.length : Int) := by omega
        have h5 := str_at l k
        by_cases hd : isDg (l.getD k 0) = true
        · have hv := valD_next h1
          have ha := all_next h1
          rw [HA.out, hd] at ha
          have HA2 := Lib.hid ha
          obtain ⟨d1, d2⟩ := dg_val hd
          have HV := Lib.hid hv
          generalize l.getD k 0 = d at *
          generalize valD (l.take k) = V at *
          clear hv ha hd
          have e1 : ((d.toNat : Int) < 48) = False := by simp <;> omega
          have e2 : ((57 : Int) < (d.toNat : Int)) = False := by simp <;> omega
          have i1 := IntWalk.i64_in (10 * (V : Int)) ⟨by omega, by omega⟩
          have i2 := IntWalk.i64_in (10 * (V : Int) + ((d.toNat : Int) - 48)) ⟨by omega, by omega⟩
          have i3 : IntKind.u8.wrap ((d.toNat : Int) - 48) = (d.toNat : Int) - 48 := by rw [IntKind.wrap_u8]; omega
          have i4 := IntWalk.i64_in ((d.toNat : Int) - 48) ⟨by omega, by omega⟩
          go_wp2_with fail
          go_roundw
          case rel => exact ⟨k + 1, by rw [HV.out]; congr 1; omega, by go_num, by omega, HA2, HE⟩
          case measure => simp [intOf] <;> omega
        · have hd : isDg (l.getD k 0) = false := by simpa using hd
          have HN := Lib.hid (HNO.out (all_not h1 hd))
          have hcm : ((l.getD k 0).toNat : Int) < 48 ∨ (57 : Int) < ((l.getD k 0).toNat : Int) := by
            rw [isDg, Bool.and_eq_false_iff, decide_eq_false_iff_not, decide_eq_false_iff_not, UInt8.le_iff_toNat_le, UInt8.le_iff_toNat_le] at hd
            have e48 : (48 : UInt8).toNat = 48 := rfl
            have e57 : (57 : UInt8).toNat = 57 := rfl
            omega
          generalize l.getD k 0 = d at *
          clear hd
          rcases hcm with e1 | e1
          · go_wp2_with fail
            go_ret2
            exact num_no HN.out HE.out
          · have e2 : ¬ ((d.toNat : Int) < 48) := by omega
            go_wp2_with fail
            go_ret2
            exact num_no HN.out HE.out
      · obtain rfl : k = l.length := by omega
        have e9 : l.take l.length = l := List.take_of_length_le (Nat.le_refl _)
        rw [e9] at HA ⊢
        have HY := Lib.hid (HYES.out HA.out)
        go_wp2_with fail
        go_ret2
        exact num_yes HY.out HE.out
set_option maxHeartbeats 4000000 in
theorem refkind_any (c : UInt8) (w : World) : Calls Tryz.prog 92 #[.int .u8 (c.toNat : Int)] w fun e w' => e = .returned (.int .u8 (kindR c)) ∧ Ext w w' := by
  go_enter Tryz.func92, Tryz.ntmps92
  go_wp2_with fail
  go_loopw [5] (fun i wr => ∃ k : Nat, i = .int .i64 k ∧ k ≤ 7 ∧ Hid (∀ x ∈ ([102, 108, 109, 120, 121, 115, 111] : List UInt8).take k, c ≠ x) ∧ wr = w.alloc (.cells #[.int .u8 3, .int .u8 4, .int .u8 5, .int .u8 6, .int .u8 7, .int .u8 8, .int .u8 10] 5)) (fun i _ => 7 - (intOf i).toNat)
  case atStart => exact ⟨0, rfl, by omega, Lib.hid (by simp), rfl⟩
  case round =>
    obtain ⟨k, rfl, hk, HN, rfl⟩ := hrel
    have hb : Ext w (w.alloc (.cells #[.int .u8 3, .int .u8 4, .int .u8 5, .int .u8 6, .int .u8 7, .int .u8 8, .int .u8 10] 5)) := (Ext.refl _).alloc _
    by_cases e0 : k = 0
    · subst e0
      have hs : ∀ h, (⟨#[102, 108, 109, 120, 121, 115, 111]⟩ : ByteArray)[0]'h = (102 : UInt8) := fun _ => rfl
      by_cases hc : c = 102
      · have hv := Lib.hid (show kindR c = 3 by rw [hc]; decide)
        have hn : ((102 : Int) == (c.toNat : Int)) = true := by rw [hc]; rfl
        clear hc
        go_wp2_with fail
        go_ret
        exact ⟨by rw [hv.out]; rfl, hb⟩
      · have hne : ((c.toNat : Int) == 102) = false := by
          rw [beq_eq_false_iff_ne]
          intro h
          exact hc (UInt8.toNat_inj.1 (by rw [show (102 : UInt8).toNat = 102 from rfl]; omega))
        have hne2 : ((102 : Int) == (c.toNat : Int)) = false := by rw [beq_eq_false_iff_ne] at hne ⊢; omega
        have HN2 := Lib.hid (show ∀ x ∈ ([102, 108, 109, 120, 121, 115, 111] : List UInt8).take (0 + 1), c ≠ x from by
          intro x hx
          rw [show ([102, 108, 109, 120, 121, 115, 111] : List UInt8).take (0 + 1) = ([102, 108, 109, 120, 121, 115, 111] : List UInt8).take 0 ++ [102] from rfl] at hx
          rcases List.mem_append.1 hx with h | h
          · exact HN.out x h
          · rw [List.mem_singleton.1 h]; exact hc)
        clear hc HN
        go_wp2_with fail
        go_roundw
        case rel => exact ⟨0 + 1, rfl, by omega, HN2, by first | rfl | trivial⟩
        case measure => simp [intOf]
    by_cases e1 : k = 1
    · subst e1
      have hs : ∀ h, (⟨#[102, 108, 109, 120, 121, 115, 111]⟩ : ByteArray)[1]'h = (108 : UInt8) := fun _ => rfl
      by_cases hc : c = 108
      · have hv := Lib.hid (show kindR c = 4 by rw [hc]; decide)
        have hn : ((108 : Int) == (c.toNat : Int)) = true := by rw [hc]; rfl
        clear hc
        go_wp2_with fail
        go_ret
        exact ⟨by rw [hv.out]; rfl, hb⟩
      · have hne : ((c.toNat : Int) == 108) = false := by
          rw [beq_eq_false_iff_ne]
          intro h
          exact hc (UInt8.toNat_inj.1 (by rw [show (108 : UInt8).toNat = 108 from rfl]; omega))
        have hne2 : ((108 : Int) == (c.toNat : Int)) = false := by rw [beq_eq_false_iff_ne] at hne ⊢; omega
        have HN2 := Lib.hid (show ∀ x ∈ ([102, 108, 109, 120, 121, 115, 111] : List UInt8).take (1 + 1), c ≠ x from by
          intro x hx
          rw [show ([102, 108, 109, 120, 121, 115, 111] : List UInt8).take (1 + 1) = ([102, 108, 109, 120, 121, 115, 111] : List UInt8).take 1 ++ [108] from rfl] at hx
          rcases List.mem_append.1 hx with h | h
          · exact HN.out x h
          · rw [List.mem_singleton.1 h]; exact hc)
        clear hc HN
        go_wp2_with fail
        go_roundw
        case rel => exact ⟨1 + 1, rfl, by omega, HN2, by first | rfl | trivial⟩
        case measure => simp [intOf]
    by_cases e2 : k = 2
    · subst e2
      have hs : ∀ h, (⟨#[102, 108, 109, 120, 121, 115, 111]⟩ : ByteArray)[2]'h = (109 : UInt8) := fun _ => rfl
      by_cases hc : c = 109
      · have hv := Lib.hid (show kindR c = 5 by rw [hc]; decide)
        have hn : ((109 : Int) == (c.toNat : Int)) = true := by rw [hc]; rfl
        clear hc
        go_wp2_with fail
        go_ret
        exact ⟨by rw [hv.out]; rfl, hb⟩
      · have hne : ((c.toNat : Int) == 109) = false := by
          rw [beq_eq_false_iff_ne]
          intro h
          exact hc (UInt8.toNat_inj.1 (by rw [show (109 : UInt8).toNat = 109 from rfl]; omega))
        have hne2 : ((109 : Int) == (c.toNat : Int)) = false := by rw [beq_eq_false_iff_ne] at hne ⊢; omega
        have HN2 := Lib.hid (show ∀ x ∈ ([102, 108, 109, 120, 121, 115, 111] : List UInt8).take (2 + 1), c ≠ x from by
          intro x hx
          rw [show ([102, 108, 109, 120, 121, 115, 111] : List UInt8).take (2 + 1) = ([102, 108, 109, 120, 121, 115, 111] : List UInt8).take 2 ++ [109] from rfl] at hx
          rcases List.mem_append.1 hx with h | h
          · exact HN.out x h
          · rw [List.mem_singleton.1 h]; exact hc)
        clear hc HN
        go_wp2_with fail
        go_roundw
        case rel => exact ⟨2 + 1, rfl, by omega, HN2, by first | rfl | trivial⟩
        case measure => simp [intOf]
    by_cases e3 : k = 3
    · subst e3
      have hs : ∀ h, (⟨#[102, 108, 109, 120, 121, 115, 111]⟩ : ByteArray)[3]'h = (120 : UInt8) := fun _ => rfl
      by_cases hc : c = 120
      · have hv := Lib.hid (show kindR c = 6 by rw [hc]; decide)
        have hn : ((120 : Int) == (c.toNat : Int)) = true := by rw [hc]; rfl
        clear hc
        go_wp2_with fail
        go_ret
        exact ⟨by rw [hv.out]; rfl, hb⟩
      · have hne : ((c.toNat : Int) == 120) = false := by
          rw [beq_eq_false_iff_ne]
          intro h
          exact hc (UInt8.toNat_inj.1 (by rw [show (120 : UInt8).toNat = 120 from rfl]; omega))
        have hne2 : ((120 : Int) == (c.toNat : Int)) = false := by rw [beq_eq_false_iff_ne] at hne ⊢; omega
        have HN2 := Lib.hid (show ∀ x ∈ ([102, 108, 109, 120, 121, 115, 111] : List UInt8).take (3 + 1), c ≠ x from by
          intro x hx
          rw [show ([102, 108, 109, 120, 121, 115, 111] : List UInt8).take (3 + 1) = ([102, 108, 109, 120, 121, 115, 111] : List UInt8).take 3 ++ [120] from rfl] at hx
          rcases List.mem_append.1 hx with h | h
          · exact HN.out x h
          · rw [List.mem_singleton.1 h]; exact hc)
        clear hc HN
        go_wp2_with fail
        go_roundw
        case rel => exact ⟨3 + 1, rfl, by omega, HN2, by first | rfl | trivial⟩
        case measure => simp [intOf]
    by_cases e4 : k = 4
    · subst e4
      have hs : ∀ h, (⟨#[102, 108, 109, 120, 121, 115, 111]⟩ : ByteArray)[4]'h = (121 : UInt8) := fun _ => rfl
      by_cases hc : c = 121
      · have hv := Lib.hid (show kindR c = 7 by rw [hc]; decide)
        have hn : ((121 : Int) == (c.toNat : Int)) = true := by rw [hc]; rfl
        clear hc
        go_wp2_with fail
        go_ret
        exact ⟨by rw [hv.out]; rfl, hb⟩
      · have hne : ((c.toNat : Int) == 121) = false := by
          rw [beq_eq_false_iff_ne]
          intro h
          exact hc (UInt8.toNat_inj.1 (by rw [show (121 : UInt8).toNat = 121 from rfl]; omega))
        have hne2 : ((121 : Int) == (c.toNat : Int)) = false := by rw [beq_eq_false_iff_ne] at hne ⊢; omega
        have HN2 := Lib.hid (show ∀ x ∈ ([102, 108, 109, 120, 121, 115, 111] : List UInt8).take (4 + 1), c ≠ x from by
          intro x hx
          rw [show ([102, 108, 109, 120, 121, 115, 111] : List UInt8).take (4 + 1) = ([102, 108, 109, 120, 121, 115, 111] : List UInt8).take 4 ++ [121] from rfl] at hx
          rcases List.mem_append.1 hx with h | h
          · exact HN.out x h
          · rw [List.mem_singleton.1 h]; exact hc)
        clear hc HN
        go_wp2_with fail
        go_roundw
        case rel => exact ⟨4 + 1, rfl, by omega, HN2, by first | rfl | trivial⟩
        case measure => simp [intOf]
    by_cases e5 : k = 5
    · subst e5
      have hs : ∀ h, (⟨#[102, 108, 109, 120, 121, 115, 111]⟩ : ByteArray)[5]'h = (115 : UInt8) := fun _ => rfl
      by_cases hc : c = 115
      · have hv := Lib.hid (show kindR c = 8 by rw [hc]; decide)
        have hn : ((115 : Int) == (c.toNat : Int)) = true := by rw [hc]; rfl
        clear hc
        go_wp2_with fail
        go_ret
        exact ⟨by rw [hv.out]; rfl, hb⟩
      · have hne : ((c.toNat : Int) == 115) = false := by
          rw [beq_eq_false_iff_ne]
          intro h
          exact hc (UInt8.toNat_inj.1 (by rw [show (115 : UInt8).toNat = 115 from rfl]; omega))
        have hne2 : ((115 : Int) == (c.toNat : Int)) = false := by rw [beq_eq_false_iff_ne] at hne ⊢; omega
        have HN2 := Lib.hid (show ∀ x ∈ ([102, 108, 109, 120, 121, 115, 111] : List UInt8).take (5 + 1), c ≠ x from by
          intro x hx
          rw [show ([102, 108, 109, 120, 121, 115, 111] : List UInt8).take (5 + 1) = ([102, 108, 109, 120, 121, 115, 111] : List UInt8).take 5 ++ [115] from rfl] at hx
          rcases List.mem_append.1 hx with h | h
          · exact HN.out x h
          · rw [List.mem_singleton.1 h]; exact hc)
        clear hc HN
        go_wp2_with fail
        go_roundw
        case rel => exact ⟨5 + 1, rfl, by omega, HN2, by first | rfl | trivial⟩
        case measure => simp [intOf]
    by_cases e6 : k = 6
    · subst e6
      have hs : ∀ h, (⟨#[102, 108, 109, 120, 121, 115, 111]⟩ : ByteArray)[6]'h = (111 : UInt8) := fun _ => rfl
      by_cases hc : c = 111
      · have hv := Lib.hid (show kindR c = 10 by rw [hc]; decide)
        have hn : ((111 : Int) == (c.toNat : Int)) = true := by rw [hc]; rfl
        clear hc
        go_wp2_with fail
        go_ret
        exact ⟨by rw [hv.out]; rfl, hb⟩
      · have hne : ((c.toNat : Int) == 111) = false := by
          rw [beq_eq_false_iff_ne]
          intro h
          exact hc (UInt8.toNat_inj.1 (by rw [show (111 : UInt8).toNat = 111 from rfl]; omega))
        have hne2 : ((111 : Int) == (c.toNat : Int)) = false := by rw [beq_eq_false_iff_ne] at hne ⊢; omega
        have HN2 := Lib.hid (show ∀ x ∈ ([102, 108, 109, 120, 121, 115, 111] : List UInt8).take (6 + 1), c ≠ x from by
          intro x hx
          rw [show ([102, 108, 109, 120, 121, 115, 111] : List UInt8).take (6 + 1) = ([102, 108, 109, 120, 121, 115, 111] : List UInt8).take 6 ++ [111] from rfl] at hx
          rcases List.mem_append.1 hx with h | h
          · exact HN.out x h
          · rw [List.mem_singleton.1 h]; exact hc)
        clear hc HN
        go_wp2_with fail
        go_roundw
        case rel => exact ⟨6 + 1, rfl, by omega, HN2, by first | rfl | trivial⟩
        case measure => simp [intOf]
    obtain rfl : k = 7 := by omega
    have hv : kindR c = 0 := by
      have h9 := HN.out
      simp at h9
      obtain ⟨n1, n2, n3, n4, n5, n6, n7⟩ := h9
      simp [kindR, n1, n2, n3, n4, n5, n6, n7]
    have HV := Lib.hid hv
    clear hv
    go_wp2_with fail
    go_ret
    exact ⟨by rw [HV.out]; rfl, hb⟩
end Go.Proofs.YtjjhoonkooihjaaGreatDoor
