/- The chapter's examples. -/
import Derived.Test.YtpcefmopoceiiaaDoorParse
import Derived.Test.YtpcefmopoceiiaaDoorFaceT
namespace Go.Proofs.YtpcefmopoceiiaaDoor
set_option maxRecDepth 100000
set_option maxRecDepth 100000
open Go.RowKit Go.ChangeShapes Go.WideShapes Go.Joins
theorem len_e {l : List St} {n : Nat} {w : World} {A : Option Addr} (hv : Vec shSt w A n l) (ha : allE l = 0) : n ≤ maxLen := by
  have := hv.1
  have := (allE_e ha).1
  unfold maxLen
  omega
theorem stext_c {n c : Nat} {A : Option Addr} {l : List St} {T : List UInt8} {w : World} (hv : Vec shSt w A n l) (ha : allE l = 0) (ht : textL l = T) (hg : Glob w) :
    Calls Tryd.prog 17 #[.slice A n c] w fun e w' => e = .returned (.tuple #[.string ⟨T.toArray⟩, .int .i64 0]) ∧ Ext w w' := by
  have h := stext_any n c A l w hv (len_e hv ha) (bytes_ok (allE_e ha).2.1) hg
  rw [textG, if_pos ha, ht, ha] at h
  exact h
theorem uses_c {n c : Nat} {A : Option Addr} {l : List St} {U : Int} {w : World} (hv : Vec shSt w A n l) (ha : allE l = 0) (hu : usL l = U) :
    Calls Tryd.prog 10 #[.slice A n c] w fun e w' => e = .returned (.tuple #[.int .i64 U, .int .i64 0]) ∧ Ext w w' := by
  have h := uses_any n c A l w hv (len_e hv ha) (bytes_ok (allE_e ha).2.1)
  rw [usG, if_pos ha, hu, ha] at h
  exact h
theorem makes_c {n c : Nat} {A : Option Addr} {l : List St} {U : Int} {w : World} (hv : Vec shSt w A n l) (ha : allE l = 0) (hu : mkL l = U) :
    Calls Tryd.prog 11 #[.slice A n c] w fun e w' => e = .returned (.tuple #[.int .i64 U, .int .i64 0]) ∧ Ext w w' := by
  have h := makes_any n c A l w hv (len_e hv ha) (bytes_ok (allE_e ha).2.1)
  rw [mkG, if_pos ha, hu, ha] at h
  exact h
theorem turn_c {n c : Nat} {A : Option Addr} {l L : List St} {w : World} (m : Nat) (hv : Vec shSt w A n l) (ha : allE l = 0) (hu : turnL l = L) (hm : L.length = m) :
    Calls Tryd.prog 15 #[.slice A n c] w fun e w' => ∃ (A' : Option Addr) (c' : Nat), e = .returned (.tuple #[.slice A' m c', .int .i64 0]) ∧ Ext w w' ∧ Vec shSt w' A' m L := by
  subst hu
  subst hm
  refine (turn_ok n c A l w hv ha).mono ?_
  rintro e w' ⟨A', n', c', rfl, h1, h2⟩
  obtain rfl := h2.1
  exact ⟨A', c', rfl, h1, h2⟩
theorem parse_c {s : List UInt8} {l : List St} {w : World} (m : Nat) (h : parseL s = some l) (hm : l.length = m) (hg : Glob w) :
    Calls Tryd.prog 9 #[.string ⟨s.toArray⟩] w fun e w' => ∃ (A : Option Addr) (c : Nat), e = .returned (.tuple #[.slice A m c, .int .i64 0]) ∧ Ext w w' ∧ OwnV shSt w' w.heap.size 23 (.slice A m c) m l := by
  have hs := (parse_iff.1 h).1
  subst hm
  refine (parse_any s (by omega) w hg).mono ?_
  rintro e w' ⟨v, rfl, h1, h2⟩
  obtain ⟨e1, e2⟩ := parse_some h
  rw [e2] at h1
  rw [e1]
  obtain ⟨A, c, rfl, -⟩ := own_vec h1
  exact ⟨A, c, rfl, h2, h1⟩
theorem parse_x {s : List UInt8} {w : World} (h : parseL s = none) (hs : s.length ≤ 1000000000) (hg : Glob w) :
    Calls Tryd.prog 9 #[.string ⟨s.toArray⟩] w fun e w' => ∃ (A : Option Addr) (c : Nat), e = .returned (.tuple #[.slice A 0 c, .int .i64 12]) ∧ Ext w w' := by
  refine (parse_any s hs w hg).mono ?_
  rintro e w' ⟨v, rfl, h1, h2⟩
  obtain ⟨e1, e2⟩ := parse_none h
  rw [e2] at h1
  rw [e1]
  obtain ⟨A, c, rfl, -⟩ := own_vec h1
  exact ⟨A, c, rfl, h2⟩
def exL : List St := [⟨3, false, 2, 0⟩, ⟨2, false, 0, 0⟩, ⟨1, true, 0, 0⟩, ⟨1, true, 0, 0⟩, ⟨1, true, 0, 0⟩]
theorem example_any (w : World) : Calls Tryd.prog 27 #[] w fun e w' => ∃ g : Nat, e = .returned (.slice (some ⟨g, 0, none⟩) 5 5) ∧ Ext w w' ∧ Vec shSt w' (some ⟨g, 0, none⟩) 5 exL := by
  go_enter Tryd.func27, Tryd.ntmps27
  go_wp2_with fail
  go_ret
  exact ⟨_, rfl, by repeat (first | exact Ext.refl _ | assumption | refine Ext.alloc ?_ _ | refine Ext.drew ?_ | refine Ext.drewN ?_ _ | refine Ext.trans ?_ (by assumption)), Vec.lit2 (by simp) rfl rfl⟩
set_option maxHeartbeats 4000000 in
theorem alive_any (w : World) (hg : Glob w) : Calls Tryd.prog 12 #[] w fun e w' => e = .returned (.bool true) ∧ Ext w w' := by
  have HG := Lib.hid hg
  have E0 := Lib.hid (show allE exL = 0 by decide +kernel)
  have E1 := Lib.hid (show textL exL = [107, 102, 50, 32, 121, 111, 32, 112, 51] by decide +kernel)
  have E2 := Lib.hid (show usL exL = 5 by decide +kernel)
  have E3 := Lib.hid (show mkL exL = 5 by decide +kernel)
  have E4 := Lib.hid (show turnL exL = [⟨1, false, 0, 0⟩, ⟨1, false, 0, 0⟩, ⟨1, false, 0, 0⟩, ⟨2, false, 0, 0⟩, ⟨3, true, 2, 0⟩] by decide +kernel)
  have E5 := Lib.hid (show allE [⟨1, false, 0, 0⟩, ⟨1, false, 0, 0⟩, ⟨1, false, 0, 0⟩, ⟨2, false, 0, 0⟩, ⟨3, true, 2, 0⟩] = 0 by decide +kernel)
  have E6 := Lib.hid (show textL [⟨1, false, 0, 0⟩, ⟨1, false, 0, 0⟩, ⟨1, false, 0, 0⟩, ⟨2, false, 0, 0⟩, ⟨3, true, 2, 0⟩] = [107, 51, 32, 121, 111, 32, 112, 102, 50] by decide +kernel)
  have E7 := Lib.hid (show parseL [107, 120, 50, 47, 49] = some [⟨6, false, 2, 1⟩] by decide +kernel)
  have E8 := Lib.hid (show turnL [⟨6, false, 2, 1⟩] = [⟨6, true, 1, 2⟩] by decide +kernel)
  have E9 := Lib.hid (show allE [⟨6, false, 2, 1⟩] = 0 by decide +kernel)
  have E10 := Lib.hid (show allE [⟨6, true, 1, 2⟩] = 0 by decide +kernel)
  have E11 := Lib.hid (show textL [⟨6, true, 1, 2⟩] = [112, 120, 49, 47, 50] by decide +kernel)
  have HB := Lib.hid (Ext.refl w)
  clear hg
  go_enter Tryd.func12, Tryd.ntmps12
  go_wp2_with (first
    | (go_at_call 27; go_loud ((with_reducible refine (example_any _).mono ?_); rintro e w1 ⟨g, rfl, hq, hv⟩; replace HB := Lib.hid (HB.out.trans hq); have HV := Lib.hid hv; clear hq hv))
    | (go_at_call 17; (first
      | ((with_reducible refine (stext_c HVZ.out E10.out E11.out (HG.out.ext HB.out)).mono ?_); rintro e w1 ⟨rfl, hq⟩; replace HB := Lib.hid (HB.out.trans hq); clear hq)
      | ((with_reducible refine (stext_c HVT.out E5.out E6.out (HG.out.ext HB.out)).mono ?_); rintro e w1 ⟨rfl, hq⟩; replace HB := Lib.hid (HB.out.trans hq); clear hq)
      | ((with_reducible refine (stext_c HV.out E0.out E1.out (HG.out.ext HB.out)).mono ?_); rintro e w1 ⟨rfl, hq⟩; replace HB := Lib.hid (HB.out.trans hq); clear hq)))
    | (go_at_call 10; go_loud ((with_reducible refine (uses_c HV.out E0.out E2.out).mono ?_); rintro e w1 ⟨rfl, hq⟩; replace HB := Lib.hid (HB.out.trans hq); clear hq))
    | (go_at_call 11; go_loud ((with_reducible refine (makes_c HV.out E0.out E3.out).mono ?_); rintro e w1 ⟨rfl, hq⟩; replace HB := Lib.hid (HB.out.trans hq); clear hq))
    | (go_at_call 9; go_loud ((with_reducible refine (parse_c 1 E7.out rfl (HG.out.ext HB.out)).mono ?_); rintro e w1 ⟨A3, c3, rfl, hq, hv⟩; replace HB := Lib.hid (HB.out.trans hq); have HVP := Lib.hid (Vec.of_own hv); clear hq hv))
    | (go_at_call 15; (first
      | ((with_reducible refine (turn_c 1 HVP.out E9.out E8.out rfl).mono ?_); rintro e w1 ⟨A4, c4, rfl, hq, hv⟩; replace HB := Lib.hid (HB.out.trans hq); have HVZ := Lib.hid hv; clear hq hv)
      | ((with_reducible refine (turn_c 5 HV.out E0.out E4.out rfl).mono ?_); rintro e w1 ⟨A2, c2, rfl, hq, hv⟩; replace HB := Lib.hid (HB.out.trans hq); have HVT := Lib.hid hv; clear hq hv))))
  go_ret
  exact ⟨rfl, HB.out⟩
end Go.Proofs.YtpcefmopoceiiaaDoor
