/- The reference's Decimal writes a number in decimal. -/
import Derived.Test.YtpcefmopoceiiaaGreatDoorLibC
import Derived.Laws.BytesArg
namespace Go.Proofs.YtpcefmopoceiiaaGreatDoor
set_option maxRecDepth 100000
set_option maxRecDepth 100000
open Go.RowKit
theorem decD_lib {n : Nat} (h : n < 1000000000000000) : decD n = Lib.decDigits n := decF_lib 19 n (by omega)
/-- the digits in front of the last ones -/
def decG (m : Nat) : List UInt8 := if m = 0 then [] else decD m
theorem decD_step {n : Nat} (h : n < 1000000000000000) : decD n = decG (n / 10) ++ [dg n] := by
  rw [decD_lib h, Lib.decDigits, decG]
  by_cases h1 : n < 10
  · rw [dif_pos h1, if_pos (by omega)]
    rw [dg_lib h1]
    rfl
  · rw [dif_neg h1, if_neg (by omega), decD_lib (by omega), dg]
theorem decG_step {n : Nat} (h0 : 0 < n) (h : n < 1000000000000000) : decG n = decG (n / 10) ++ [dg n] := by
  rw [← decD_step h, decG, if_neg (by omega)]
theorem conv_one (w : World) (x : Int) : (convert 88 9 (.slice (some ⟨w.heap.size, 0, none⟩) 1 1)).run Tryz.prog (w.alloc (.cells #[.int .u8 x] 5)) = .ok (.string ⟨#[UInt8.ofNat x.toNat]⟩) (w.alloc (.cells #[.int .u8 x] 5)) := by
  have h := run_convert_bytes_arg (P := Tryz.prog) (w := w.alloc (.cells #[.int .u8 x] 5)) 88 5 Tryz.underlying88 Tryz.underlying5 w.heap.size 0 1 1 [x] rfl (fun i hi => by
    obtain rfl : i = 0 := by omega
    simp [go_sem]) 9 Tryz.underlying9
  rw [h]
  rfl
set_option maxHeartbeats 2000000 in
theorem decimal_any (n : Nat) (hn : n < 1000000000000) (w : World) : Calls Tryz.prog 36 #[.int .i64 (n : Int)] w fun e w' => e = .returned (.string ⟨(decD n).toArray⟩) ∧ Ext w w' := by
  have hconv := conv_one
  have q0 : (0 : Int) ≤ (n : Int) := by omega
  have q1 : (n : Int) < 1000000000000 := by omega
  go_enter Tryz.func36, Tryz.ntmps36
  go_wp2_with fail
  go_loopw [0, 3] (fun a b wr => ∃ (m : Nat) (s : List UInt8), a = .int .i64 m ∧ b = .string ⟨s.toArray⟩ ∧ m < 1000000000000 ∧ Hid (decG m ++ s = decD n) ∧ Hid (Ext w wr)) (fun a _ _ => (intOf a).toNat)
  case atStart => exact ⟨n / 10, [dg n], congrArg _ (by omega), rfl, by omega, Lib.hid (decD_step (by omega)).symm, Lib.hid (by repeat (first | exact Ext.refl _ | assumption | refine Ext.alloc ?_ _ | refine Ext.drew ?_ | refine Ext.drewN ?_ _ | refine Ext.trans ?_ (by assumption)))⟩
  case round =>
    obtain ⟨m, s, rfl, rfl, hm, HD, HE⟩ := hrel
    have hsl : s.length ≤ 20 := by
      have h1 := dec_len n
      rw [← HD.out, List.length_append] at h1
      omega
    by_cases h0 : m = 0
    · subst h0
      have HS := Lib.hid (show s = decD n from HD.out)
      go_wp2
      go_ret
      exact ⟨by rw [HS.out]; rfl, HE.out⟩
    · have q2 : (0 : Int) < (m : Int) := by omega
      have q3 : (m : Int) ≤ 9223372036854775807 := by omega
      have q4 : (0 : Int) ≤ (m : Int) := by omega
      have HN0 := Lib.hid (show decG (m / 10) ++ (dg m :: s) = decD n by rw [← HD.out, decG_step (n := m) (by omega) (by omega), List.append_assoc]; rfl)
      obtain ⟨G, hG⟩ : ∃ G, dg m :: s = G := ⟨_, rfl⟩
      obtain ⟨D, hD⟩ : ∃ D, [dg m] = D := ⟨_, rfl⟩
      have hcat : (⟨D.toArray⟩ ++ ⟨s.toArray⟩ : ByteArray) = ⟨G.toArray⟩ := by rw [← hG, ← hD]; exact str_app [dg m] s
      have hdl : D.length = 1 := by rw [← hD]; rfl
      have hcv : (convert 88 9 (.slice (some ⟨wr.heap.size, 0, none⟩) 1 1)).run Tryz.prog (wr.alloc (.cells #[.int .u8 (48 + (m : Int) % 10)] 5)) = .ok (.string ⟨D.toArray⟩) (wr.alloc (.cells #[.int .u8 (48 + (m : Int) % 10)] 5)) := by
        have h9 := conv_one wr (48 + (m : Int) % 10)
        rw [show (48 + (m : Int) % 10).toNat = 48 + m % 10 by omega] at h9
        rw [h9, ← hD]
        rfl
      have HN := Lib.hid (show decG (m / 10) ++ G = decD n by rw [← hG]; exact HN0.out)
      have HM := Lib.hid hm
      clear HN0 hG HD hD hconv hm hn q1
      go_wp2_with fail
      go_roundw
      case rel => exact ⟨m / 10, G, congrArg _ (by omega), rfl, (by have := HM.out; omega), HN, Lib.hid (Ext.trans HE.out (by repeat (first | exact Ext.refl _ | assumption | refine Ext.alloc ?_ _ | refine Ext.drew ?_ | refine Ext.drewN ?_ _ | refine Ext.trans ?_ (by assumption))))⟩
      case measure => simp [intOf]; omega
end Go.Proofs.YtpcefmopoceiiaaGreatDoor
