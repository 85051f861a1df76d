/- The reference's Turn, Text and Parse; Turn of whatever list. -/
import Derived.Test.YtpcefmopoceiiaaGreatDoorWordM
import Derived.Test.YtpcefmopoceiiaaGreatDoorWr
import Derived.Test.YtpcefmopoceiiaaGreatDoorFaceT
import Derived.Test.YtpcefmopoceiiaaGreatDoorFaceO
import Derived.Test.YtpcefmopoceiiaaGreatDoorTextC
import Derived.Test.YtpcefmopoceiiaaGreatDoorParse
import Derived.Test.YtpcefmopoceiiaaGreatDoorStitchR
namespace Go.Proofs.YtpcefmopoceiiaaGreatDoor
set_option maxRecDepth 100000
set_option maxRecDepth 100000
open Go.RowKit Go.ChangeShapes Go.WideShapes Go.Joins
/-- what Turn returns -/
def turnG (l : List St) : List St := if allE l = 0 then turnL l else []
theorem sturn_any (m c : Nat) (A : Option Addr) (l : List St) (w : World) (hv : Vec shSt w A m l) (hn : m ≤ maxLen) (hby : Bytes l) : Calls Tryz.prog 5 #[.slice A m c] w (FaceR (turnG l) (allE l) w) := by
  by_cases h0 : allE l = 0
  · rw [turnG, if_pos h0, h0]
    exact turn_ok m c A l w hv h0
  · rw [turnG, if_neg h0]
    have HS := Lib.hid (sall_any m c A l w hv hn hby)
    obtain ⟨x, hx⟩ : ∃ x, allE l = x := ⟨_, rfl⟩
    rw [hx] at h0 HS ⊢
    have hb : (x != 0) = true := by simpa using h0
    clear hv hby h0 hx
    go_enter Tryz.func5, Tryz.ntmps5
    go_wp2_with (go_at_call 12; go_loud ((with_reducible refine HS.out.mono ?_); rintro e w1 ⟨rfl, hq1⟩))
    go_ret2
    exact ⟨none, 0, 0, rfl, by repeat (first | exact Ext.refl _ | assumption | refine Ext.alloc ?_ _ | refine Ext.drew ?_ | refine Ext.drewN ?_ _ | refine Ext.trans ?_ (by assumption)), Vec.none_ _ _ _⟩
theorem rturn_any (m c : Nat) (A : Option Addr) (l : List St) (w : World) (hv : Vec shSt w A m l) (hn : m ≤ maxLen) : Calls Tryz.prog 6 #[.slice A m c] w (FaceR (turnG l) (allE l) w) := by
  have HX := Lib.hid hv
  have HS := Lib.hid (fun (w' : World) (hb : Ext w w') => rall_any m c A l w' (hv.ext hb) hn)
  by_cases h0 : allE l = 0
  · have HA := Lib.hid h0
    have HO := Lib.hid (allE_e h0).2.1
    have hm : m ≤ 200 := by rw [← hv.1]; exact (allE_e h0).1
    rw [turnG, if_pos h0, h0]
    clear hv h0
    go_enter Tryz.func6, Tryz.ntmps6
    go_wp2_with (first
      | (go_at_call 15; go_loud ((with_reducible refine (HS.out _ (by repeat (first | exact Ext.refl _ | assumption | refine Ext.alloc ?_ _ | refine Ext.drew ?_ | refine Ext.drewN ?_ _ | refine Ext.trans ?_ (by assumption)))).mono ?_); rintro e w1 ⟨rfl, hq1⟩; rw [HA.out]))
      | (go_at_call 16; go_loud ((with_reducible refine (rturned_any m c A l _ (HX.out.ext (by repeat (first | exact Ext.refl _ | assumption | refine Ext.alloc ?_ _ | refine Ext.drew ?_ | refine Ext.drewN ?_ _ | refine Ext.trans ?_ (by assumption)))) hm HO.out).mono ?_); rintro e w2 ⟨v2, rfl, hq2, ho2⟩; obtain ⟨A2, c2, rfl, hv2⟩ := own_vec ho2; have HV2 := Lib.hid hv2; clear ho2 hv2)))
    go_ret2
    exact ⟨A2, m, c2, rfl, by repeat (first | exact Ext.refl _ | assumption | refine Ext.alloc ?_ _ | refine Ext.drew ?_ | refine Ext.drewN ?_ _ | refine Ext.trans ?_ (by assumption)), HV2.out⟩
  · rw [turnG, if_neg h0]
    obtain ⟨x, hx⟩ : ∃ x, allE l = x := ⟨_, rfl⟩
    rw [hx] at h0 HS ⊢
    have hb : (x != 0) = true := by simpa using h0
    clear hv h0 hx
    go_enter Tryz.func6, Tryz.ntmps6
    go_wp2_with (go_at_call 15; (first
      | ((with_reducible refine (HS.out _ (Ext.trans hq1 (by repeat (first | exact Ext.refl _ | refine Ext.drew ?_ | refine Ext.drewN ?_ _)))).mono ?_); rintro e w2 ⟨rfl, hq2⟩)
      | ((with_reducible refine (HS.out _ (by repeat (first | exact Ext.refl _ | refine Ext.drew ?_ | refine Ext.drewN ?_ _))).mono ?_); rintro e w1 ⟨rfl, hq1⟩)))
    go_ret2
    exact ⟨none, 0, 0, rfl, by repeat (first | exact Ext.refl _ | assumption | refine Ext.alloc ?_ _ | refine Ext.drew ?_ | refine Ext.drewN ?_ _ | refine Ext.trans ?_ (by assumption)), Vec.none_ _ _ _⟩
theorem rtext_any (m c : Nat) (A : Option Addr) (l : List St) (w : World) (hv : Vec shSt w A m l) (hn : m ≤ maxLen) : Calls Tryz.prog 8 #[.slice A m c] w fun e w' => e = .returned (.tuple #[.string ⟨(textG l).toArray⟩, .int .i64 (allE l)]) ∧ Ext w w' := by
  have HX := Lib.hid hv
  have HS := Lib.hid (fun (w' : World) (hb : Ext w w') => rall_any m c A l w' (hv.ext hb) hn)
  by_cases h0 : allE l = 0
  · have HA := Lib.hid h0
    have HO := Lib.hid (allE_e h0).2.1
    have hm : m ≤ 200 := by rw [← hv.1]; exact (allE_e h0).1
    have hs := text_short h0
    have HW := Lib.hid (fun (w' : World) (hb : Ext w w') => written_any m c A l w' (hv.ext hb) hm (allE_e h0).2.1)
    rw [textG, if_pos h0, h0]
    clear hv h0
    generalize textL l = T at *
    have hs2 : ¬ ((3000 : Int) < (T.length : Int)) := by omega
    go_enter Tryz.func8, Tryz.ntmps8
    go_wp2_with (first
      | (go_at_call 15; go_loud ((with_reducible refine (HS.out _ (by repeat (first | exact Ext.refl _ | assumption | refine Ext.alloc ?_ _ | refine Ext.drew ?_ | refine Ext.drewN ?_ _ | refine Ext.trans ?_ (by assumption)))).mono ?_); rintro e w1 ⟨rfl, hq1⟩; rw [HA.out]))
      | (go_at_call 18; go_loud ((with_reducible refine (HW.out _ (by repeat (first | exact Ext.refl _ | assumption | refine Ext.alloc ?_ _ | refine Ext.drew ?_ | refine Ext.drewN ?_ _ | refine Ext.trans ?_ (by assumption)))).mono ?_); rintro e w2 ⟨rfl, hq2⟩)))
    go_ret2
    exact ⟨rfl, by repeat (first | exact Ext.refl _ | assumption | refine Ext.alloc ?_ _ | refine Ext.drew ?_ | refine Ext.drewN ?_ _ | refine Ext.trans ?_ (by assumption))⟩
  · rw [textG, if_neg h0]
    obtain ⟨x, hx⟩ : ∃ x, allE l = x := ⟨_, rfl⟩
    rw [hx] at h0 HS ⊢
    have hb : (x != 0) = true := by simpa using h0
    clear hv h0 hx
    go_enter Tryz.func8, Tryz.ntmps8
    go_wp2_with (go_at_call 15; (first
      | ((with_reducible refine (HS.out _ (Ext.trans hq1 (by repeat (first | exact Ext.refl _ | refine Ext.drew ?_ | refine Ext.drewN ?_ _)))).mono ?_); rintro e w2 ⟨rfl, hq2⟩)
      | ((with_reducible refine (HS.out _ (by repeat (first | exact Ext.refl _ | refine Ext.drew ?_ | refine Ext.drewN ?_ _))).mono ?_); rintro e w1 ⟨rfl, hq1⟩)))
    go_ret2
    exact ⟨rfl, by repeat (first | exact Ext.refl _ | assumption | refine Ext.alloc ?_ _ | refine Ext.drew ?_ | refine Ext.drewN ?_ _ | refine Ext.trans ?_ (by assumption))⟩
end Go.Proofs.YtpcefmopoceiiaaGreatDoor
