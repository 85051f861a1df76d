/- The reference's Decimal writes a number in decimal. -/
import Derived.Test.YtjjhoonkooihjaaGreatDoorG06
import Derived.Laws.BytesArg
import Derived.Test.YtjjhoonkooihjaaGreatDoorG01
namespace Go.Proofs.YtjjhoonkooihjaaGreatDoor
set_option maxRecDepth 100000
set_option maxRecDepth 100000
open Go.RowKit
theorem decD_lib {n : Nat} (h : n < 1000000000000000) : decD n = Lib.decDigits n := decF_lib 19 n (by omega)
/-- the digits in front of the last ones -/
def decG (m : Nat) : List UInt8 := if m = 0 then [] else decD m
theorem decD_step {n : Nat} (h : n < 1000000000000000) : decD n = decG (n / 10) ++ [dg n] := by
  rw [decD_lib h, Lib.decDigits, decG]
  by_cases h1 : n < 10
  · rw [dif_pos h1, if_pos (by omega)]
    rw [dg_lib h1]
    rfl
  · rw [dif_neg h1, if_neg (by omega), decD_lib (by omega), dg]
theorem decG_step {n : Nat} (h0 : 0 < n) (h : n < 1000000000000000) : decG n = decG (n / 10) ++ [dg n] := by
  rw [← decD_step h, decG, if_neg (by omega)]
theorem conv_one (w : World) (x : Int) : (convert 62 9 (.slice (some ⟨w.heap.size, 0, none⟩) 1 1)).run Tryz.prog (w.alloc (.cells #[.int .u8 x] 5)) = .ok (.string ⟨#[UInt8.ofNat x.toNat]⟩) (w.alloc (.cells #[.int .u8 x] 5)) := by
  have h := run_convert_bytes_arg (P := Tryz.prog) (w := w.alloc (.cells #[.int .u8 x] 5)) 62 5 Tryz.underlying62 Tryz.underlying5 w.heap.size 0 1 1 [x] rfl (fun i hi => by
    obtain rfl : i = 0 := by omega
    simp [go_sem]) 9 Tryz.underlying9
  rw [h]
  rfl
set_option maxHeartbeats 2000000 in
theorem decimal_any (n : Nat) (hn : n < 1000000000000) (w : World) : Calls Tryz.prog 55 #[.int .i64 (n : Int)] w fun e w' => e = .returned (.string ⟨(decD n).toArray⟩) ∧ Ext w w' := by
  have hconv := conv_one
  have q0 : (0 : Int) ≤ (n : Int) := by omega
  have q1 : (n : Int) < 1000000000000 := by omega
  go_enter Tryz.func55, Tryz.ntmps55
  go_wp2_with fail
  go_loopw [0, 3] (fun a b wr => ∃ (m : Nat) (s : List UInt8), a = .int .i64 m ∧ b = .string ⟨s.toArray⟩ ∧ m < 1000000000000 ∧ Hid (decG m ++ s = decD n) ∧ Hid (Ext w wr)) (fun a _ _ => (intOf a).toNat)
  case atStart => exact ⟨n / 10, [dg n], congrArg _ (by omega), rfl, by omega, Lib.hid (decD_step (by omega)).symm, Lib.hid (by repeat (first | exact Ext.refl _ | assumption | refine Ext.alloc ?_ _ | refine Ext.drew ?_ | refine Ext.drewN ?_ _ | refine Ext.trans ?_ (by assumption)))⟩
  case round =>
    obtain ⟨m, s, rfl, rfl, hm, HD, HE⟩ := hrel
    have hsl : s.length ≤ 20 := by
      have h1 := dec_len n
      rw [← HD.out, List.length_append] at h1
      omega
    by_cases h0 : m = 0
    · subst h0
      have HS := Lib.hid (show s = decD n from HD.out)
      go_wp2
      go_ret
      exact ⟨by rw [HS.out]; rfl, HE.out⟩
    · have q2 : (0 : Int) < (m : Int) := by omega
      have q3 : (m : Int) ≤ 9223372036854775807 := by omega
      have q4 : (0 : Int) ≤ (m : Int) := by omega
      have HN0 := Lib.hid (show decG (m / 10) ++ (dg m :: s) = decD n by rw [← HD.out, decG_step (n := m) (by omega) (by omega), List.append_assoc]; rfl)
      obtain ⟨G, hG⟩ : ∃ G, dg m :: s = G := ⟨_, rfl⟩
      obtain ⟨D, hD⟩ : ∃ D, [dg m] = D := ⟨_, rfl⟩
      have hcat : (⟨D.toArray⟩ ++ ⟨s.toArray⟩ : ByteArray) = ⟨G.toArray⟩ := by rw [← hG, ← hD]; exact str_app [dg m] s
      have hdl : D.length = 1 := by rw [← hD]; rfl
      have hcv : (convert 62 9 (.slice (some ⟨wr.heap.size, 0, none⟩) 1 1)).run Tryz.prog (wr.alloc (.cells #[.int .u8 (48 + (m : Int) % 10)] 5)) = .ok (.string ⟨D.toArray⟩) (wr.alloc (.cells #[.int .u8 (48 + (m : Int) % 10)] 5)) := by
        have h9 := conv_one wr (48 + (m : Int) % 10)
        rw [show (48 + (m : Int) % 10).toNat = 48 + m % 10 by omega] at h9
        rw [h9, ← hD]
        rfl
      have HN := Lib.hid (show decG (m / 10) ++ G = decD n by rw [← hG]; exact HN0.out)
      have HM := Lib.hid hm
      clear HN0 hG HD hD hconv hm hn q1
      go_wp2_with fail
      go_roundw
      case rel => exact ⟨m / 10, G, congrArg _ (by omega), rfl, (by have := HM.out; omega), HN, Lib.hid (Ext.trans HE.out (by repeat (first | exact Ext.refl _ | assumption | refine Ext.alloc ?_ _ | refine Ext.drew ?_ | refine Ext.drewN ?_ _ | refine Ext.trans ?_ (by assumption))))⟩
      case measure => simp [intOf]; omega
end Go.Proofs.YtjjhoonkooihjaaGreatDoor
/- The reference's text of a stitch. -/
namespace Go.Proofs.YtjjhoonkooihjaaGreatDoor
set_option maxRecDepth 100000
set_option maxRecDepth 100000
open Go.RowKit
set_option maxHeartbeats 4000000 in
theorem one_1 (p : Bool) (a b : Nat) (w : World) :
    Calls Tryz.prog 78 #[.agg #[.int .u8 1, .bool p, .int .i64 (a : Int), .int .i64 (b : Int)]] w fun e w' => e = .returned (.string ⟨(wordT ⟨1, p, a, b⟩).toArray⟩) ∧ Ext w w' := by
  cases p
  · have hb0 : Ext w (w.alloc (.cells #[.int .u8 1, .bool false, .int .i64 (a : Int), .int .i64 (b : Int)] 54)) := (Ext.refl _).alloc _
    go_enter Tryz.func78, Tryz.ntmps78
    go_wp2_with fail
    have hb1 := hb0
    exact bodyPost_ret (v := .string ((⟨#[107]⟩ : ByteArray))) (by simp [results, Tryz.f78, go_sem]) rfl ⟨congrArg (fun x => Ending.returned (.string x)) (ByteArray.ext (by rw [show wordT ⟨1, false, (a : Int), (b : Int)⟩ = [107] ++ [] ++ [] ++ [] from by rfl] <;> simp)), hb1⟩
  · have hb0 : Ext w (w.alloc (.cells #[.int .u8 1, .bool true, .int .i64 (a : Int), .int .i64 (b : Int)] 54)) := (Ext.refl _).alloc _
    go_enter Tryz.func78, Tryz.ntmps78
    go_wp2_with fail
    have hb1 := hb0
    exact bodyPost_ret (v := .string ((⟨#[112]⟩ : ByteArray))) (by simp [results, Tryz.f78, go_sem]) rfl ⟨congrArg (fun x => Ending.returned (.string x)) (ByteArray.ext (by rw [show wordT ⟨1, true, (a : Int), (b : Int)⟩ = [112] ++ [] ++ [] ++ [] from by rfl] <;> simp)), hb1⟩
set_option maxHeartbeats 4000000 in
theorem one_2 (p : Bool) (a b : Nat) (w : World) :
    Calls Tryz.prog 78 #[.agg #[.int .u8 2, .bool p, .int .i64 (a : Int), .int .i64 (b : Int)]] w fun e w' => e = .returned (.string ⟨(wordT ⟨2, p, a, b⟩).toArray⟩) ∧ Ext w w' := by
  cases p
  · have hb0 : Ext w (w.alloc (.cells #[.int .u8 2, .bool false, .int .i64 (a : Int), .int .i64 (b : Int)] 54)) := (Ext.refl _).alloc _
    go_enter Tryz.func78, Tryz.ntmps78
    go_wp2_with fail
    have hb1 := hb0
    exact bodyPost_ret (v := .string ((⟨#[121, 111]⟩ : ByteArray))) (by simp [results, Tryz.f78, go_sem]) rfl ⟨congrArg (fun x => Ending.returned (.string x)) (ByteArray.ext (by rw [show wordT ⟨2, false, (a : Int), (b : Int)⟩ = [121, 111] from by rfl] <;> simp)), hb1⟩
  · have hb0 : Ext w (w.alloc (.cells #[.int .u8 2, .bool true, .int .i64 (a : Int), .int .i64 (b : Int)] 54)) := (Ext.refl _).alloc _
    go_enter Tryz.func78, Tryz.ntmps78
    go_wp2_with fail
    have hb1 := hb0
    exact bodyPost_ret (v := .string ((⟨#[121, 111]⟩ : ByteArray))) (by simp [results, Tryz.f78, go_sem]) rfl ⟨congrArg (fun x => Ending.returned (.string x)) (ByteArray.ext (by rw [show wordT ⟨2, true, (a : Int), (b : Int)⟩ = [121, 111] from by rfl] <;> simp)), hb1⟩
set_option maxHeartbeats 4000000 in
theorem one_3 (p : Bool) (a b : Nat) (h1 : a ≤ 200) (w : World) :
    Calls Tryz.prog 78 #[.agg #[.int .u8 3, .bool p, .int .i64 (a : Int), .int .i64 (b : Int)]] w fun e w' => e = .returned (.string ⟨(wordT ⟨3, p, a, b⟩).toArray⟩) ∧ Ext w w' := by
  have d1 := dec_len a
  have HA := Lib.hid (fun w' => decimal_any a (by omega) w')
  cases p
  · have hb0 : Ext w (w.alloc (.cells #[.int .u8 3, .bool false, .int .i64 (a : Int), .int .i64 (b : Int)] 54)) := (Ext.refl _).alloc _
    go_enter Tryz.func78, Tryz.ntmps78
    go_wp2_with (go_at_call 55; ((with_reducible refine (HA.out _).mono ?_); rintro e w1 ⟨rfl, hq1⟩; have hb1 := hb0.trans hq1))
    exact bodyPost_ret (v := .string ((⟨#[107]⟩ : ByteArray) ++ (⟨#[102]⟩ : ByteArray) ++ (⟨(decD a).toArray⟩ : ByteArray))) (by simp [results, Tryz.f78, go_sem]) rfl ⟨congrArg (fun x => Ending.returned (.string x)) (ByteArray.ext (by rw [show wordT ⟨3, false, (a : Int), (b : Int)⟩ = [107] ++ [102] ++ decD a ++ [] from by rfl] <;> simp)), hb1⟩
  · have hb0 : Ext w (w.alloc (.cells #[.int .u8 3, .bool true, .int .i64 (a : Int), .int .i64 (b : Int)] 54)) := (Ext.refl _).alloc _
    go_enter Tryz.func78, Tryz.ntmps78
    go_wp2_with (go_at_call 55; ((with_reducible refine (HA.out _).mono ?_); rintro e w1 ⟨rfl, hq1⟩; have hb1 := hb0.trans hq1))
    exact bodyPost_ret (v := .string ((⟨#[112]⟩ : ByteArray) ++ (⟨#[102]⟩ : ByteArray) ++ (⟨(decD a).toArray⟩ : ByteArray))) (by simp [results, Tryz.f78, go_sem]) rfl ⟨congrArg (fun x => Ending.returned (.string x)) (ByteArray.ext (by rw [show wordT ⟨3, true, (a : Int), (b : Int)⟩ = [112] ++ [102] ++ decD a ++ [] from by rfl] <;> simp)), hb1⟩
set_option maxHeartbeats 4000000 in
theorem one_4 (p : Bool) (a b : Nat) (h1 : a ≤ 200) (w : World) :
    Calls Tryz.prog 78 #[.agg #[.int .u8 4, .bool p, .int .i64 (a : Int), .int .i64 (b : Int)]] w fun e w' => e = .returned (.string ⟨(wordT ⟨4, p, a, b⟩).toArray⟩) ∧ Ext w w' := by
  have d1 := dec_len a
  have HA := Lib.hid (fun w' => decimal_any a (by omega) w')
  cases p
  · have hb0 : Ext w (w.alloc (.cells #[.int .u8 4, .bool false, .int .i64 (a : Int), .int .i64 (b : Int)] 54)) := (Ext.refl _).alloc _
    go_enter Tryz.func78, Tryz.ntmps78
    go_wp2_with (go_at_call 55; ((with_reducible refine (HA.out _).mono ?_); rintro e w1 ⟨rfl, hq1⟩; have hb1 := hb0.trans hq1))
    exact bodyPost_ret (v := .string ((⟨#[107]⟩ : ByteArray) ++ (⟨#[108]⟩ : ByteArray) ++ (⟨(decD a).toArray⟩ : ByteArray))) (by simp [results, Tryz.f78, go_sem]) rfl ⟨congrArg (fun x => Ending.returned (.string x)) (ByteArray.ext (by rw [show wordT ⟨4, false, (a : Int), (b : Int)⟩ = [107] ++ [108] ++ decD a ++ [] from by rfl] <;> simp)), hb1⟩
  · have hb0 : Ext w (w.alloc (.cells #[.int .u8 4, .bool true, .int .i64 (a : Int), .int .i64 (b : Int)] 54)) := (Ext.refl _).alloc _
    go_enter Tryz.func78, Tryz.ntmps78
    go_wp2_with (go_at_call 55; ((with_reducible refine (HA.out _).mono ?_); rintro e w1 ⟨rfl, hq1⟩; have hb1 := hb0.trans hq1))
    exact bodyPost_ret (v := .string ((⟨#[112]⟩ : ByteArray) ++ (⟨#[108]⟩ : ByteArray) ++ (⟨(decD a).toArray⟩ : ByteArray))) (by simp [results, Tryz.f78, go_sem]) rfl ⟨congrArg (fun x => Ending.returned (.string x)) (ByteArray.ext (by rw [show wordT ⟨4, true, (a : Int), (b : Int)⟩ = [112] ++ [108] ++ decD a ++ [] from by rfl] <;> simp)), hb1⟩
set_option maxHeartbeats 4000000 in
theorem one_5 (p : Bool) (a b : Nat) (h1 : a ≤ 200) (w : World) :
    Calls Tryz.prog 78 #[.agg #[.int .u8 5, .bool p, .int .i64 (a : Int), .int .i64 (b : Int)]] w fun e w' => e = .returned (.string ⟨(wordT ⟨5, p, a, b⟩).toArray⟩) ∧ Ext w w' := by
  have d1 := dec_len a
  have HA := Lib.hid (fun w' => decimal_any a (by omega) w')
  cases p
  · have hb0 : Ext w (w.alloc (.cells #[.int .u8 5, .bool false, .int .i64 (a : Int), .int .i64 (b : Int)] 54)) := (Ext.refl _).alloc _
    go_enter Tryz.func78, Tryz.ntmps78
    go_wp2_with (go_at_call 55; ((with_reducible refine (HA.out _).mono ?_); rintro e w1 ⟨rfl, hq1⟩; have hb1 := hb0.trans hq1))
    exact bodyPost_ret (v := .string ((⟨#[107]⟩ : ByteArray) ++ (⟨#[109]⟩ : ByteArray) ++ (⟨(decD a).toArray⟩ : ByteArray))) (by simp [results, Tryz.f78, go_sem]) rfl ⟨congrArg (fun x => Ending.returned (.string x)) (ByteArray.ext (by rw [show wordT ⟨5, false, (a : Int), (b : Int)⟩ = [107] ++ [109] ++ decD a ++ [] from by rfl] <;> simp)), hb1⟩
  · have hb0 : Ext w (w.alloc (.cells #[.int .u8 5, .bool true, .int .i64 (a : Int), .int .i64 (b : Int)] 54)) := (Ext.refl _).alloc _
    go_enter Tryz.func78, Tryz.ntmps78
    go_wp2_with (go_at_call 55; ((with_reducible refine (HA.out _).mono ?_); rintro e w1 ⟨rfl, hq1⟩; have hb1 := hb0.trans hq1))
    exact bodyPost_ret (v := .string ((⟨#[112]⟩ : ByteArray) ++ (⟨#[109]⟩ : ByteArray) ++ (⟨(decD a).toArray⟩ : ByteArray))) (by simp [results, Tryz.f78, go_sem]) rfl ⟨congrArg (fun x => Ending.returned (.string x)) (ByteArray.ext (by rw [show wordT ⟨5, true, (a : Int), (b : Int)⟩ = [112] ++ [109] ++ decD a ++ [] from by rfl] <;> simp)), hb1⟩
set_option maxHeartbeats 4000000 in
theorem one_6 (p : Bool) (a b : Nat) (h1 : a ≤ 200) (h2 : b ≤ 6) (w : World) :
    Calls Tryz.prog 78 #[.agg #[.int .u8 6, .bool p, .int .i64 (a : Int), .int .i64 (b : Int)]] w fun e w' => e = .returned (.string ⟨(wordT ⟨6, p, a, b⟩).toArray⟩) ∧ Ext w w' := by
  have d1 := dec_len a
  have HA := Lib.hid (fun w' => decimal_any a (by omega) w')
  have f1 : ¬ 9223372036854775807 < 2 + (decD a).length := by omega
  have f2 : ¬ 9223372036854775807 < 2 + (decD a).length + 1 := by omega
  have d2 := dec_len b
  have HB := Lib.hid (fun w' => decimal_any b (by omega) w')
  have f3 : ¬ 9223372036854775807 < 2 + (decD a).length + 1 + (decD b).length := by omega
  cases p
  · have hb0 : Ext w (w.alloc (.cells #[.int .u8 6, .bool false, .int .i64 (a : Int), .int .i64 (b : Int)] 54)) := (Ext.refl _).alloc _
    go_enter Tryz.func78, Tryz.ntmps78
    have hb : Ext (w.alloc (.cells #[.int .u8 6, .bool false, .int .i64 (a : Int), .int .i64 (b : Int)] 54)) (w.alloc (.cells #[.int .u8 6, .bool false, .int .i64 (a : Int), .int .i64 (b : Int)] 54)) := Ext.refl _
    obtain ⟨hc, hf, hz⟩ := hb.facts
    go_wp2_with fail
    go_region_held3 (fun w' => w'.cell? ⟨w.heap.size, 2, none⟩ = some (.int .i64 (a : Int)) ∧ w'.cell? ⟨w.heap.size, 3, none⟩ = some (.int .i64 (b : Int))) (go_keep) (first | (go_at_call 55; (first | ((with_reducible refine (HA.out _).mono ?_); rintro e w1 ⟨rfl, hq⟩; replace hb := hb.trans (Ext.trans (by repeat (first | exact Ext.refl _ | refine Ext.drew ?_ | refine Ext.drewN ?_ _ | refine Ext.alloc ?_ _)) hq); clear hq; obtain ⟨hc, hf, hz⟩ := hb.facts) | ((with_reducible refine (HB.out _).mono ?_); rintro e w1 ⟨rfl, hq⟩; replace hb := hb.trans (Ext.trans (by repeat (first | exact Ext.refl _ | refine Ext.drew ?_ | refine Ext.drewN ?_ _ | refine Ext.alloc ?_ _)) hq); clear hq; obtain ⟨hc, hf, hz⟩ := hb.facts))))
    all_goals go_wp2
    all_goals have hb1 := hb0.trans hb
    all_goals exact bodyPost_ret (v := .string ((⟨#[107]⟩ : ByteArray) ++ (⟨#[120]⟩ : ByteArray) ++ (⟨(decD a).toArray⟩ : ByteArray) ++ (⟨#[47]⟩ : ByteArray) ++ (⟨(decD b).toArray⟩ : ByteArray))) (by simp [results, Tryz.f78, go_sem]) rfl ⟨congrArg (fun x => Ending.returned (.string x)) (ByteArray.ext (by rw [show wordT ⟨6, false, (a : Int), (b : Int)⟩ = [107] ++ [120] ++ decD a ++ (47 :: decD b) from by rfl] <;> simp)), hb1⟩
  · have hb0 : Ext w (w.alloc (.cells #[.int .u8 6, .bool true, .int .i64 (a : Int), .int .i64 (b : Int)] 54)) := (Ext.refl _).alloc _
    go_enter Tryz.func78, Tryz.ntmps78
    have hb : Ext (w.alloc (.cells #[.int .u8 6, .bool true, .int .i64 (a : Int), .int .i64 (b : Int)] 54)) (w.alloc (.cells #[.int .u8 6, .bool true, .int .i64 (a : Int), .int .i64 (b : Int)] 54)) := Ext.refl _
    obtain ⟨hc, hf, hz⟩ := hb.facts
    go_wp2_with fail
    go_region_held3 (fun w' => w'.cell? ⟨w.heap.size, 2, none⟩ = some (.int .i64 (a : Int)) ∧ w'.cell? ⟨w.heap.size, 3, none⟩ = some (.int .i64 (b : Int))) (go_keep) (first | (go_at_call 55; (first | ((with_reducible refine (HA.out _).mono ?_); rintro e w1 ⟨rfl, hq⟩; replace hb := hb.trans (Ext.trans (by repeat (first | exact Ext.refl _ | refine Ext.drew ?_ | refine Ext.drewN ?_ _ | refine Ext.alloc ?_ _)) hq); clear hq; obtain ⟨hc, hf, hz⟩ := hb.facts) | ((with_reducible refine (HB.out _).mono ?_); rintro e w1 ⟨rfl, hq⟩; replace hb := hb.trans (Ext.trans (by repeat (first | exact Ext.refl _ | refine Ext.drew ?_ | refine Ext.drewN ?_ _ | refine Ext.alloc ?_ _)) hq); clear hq; obtain ⟨hc, hf, hz⟩ := hb.facts))))
    all_goals go_wp2
    all_goals have hb1 := hb0.trans hb
    all_goals exact bodyPost_ret (v := .string ((⟨#[112]⟩ : ByteArray) ++ (⟨#[120]⟩ : ByteArray) ++ (⟨(decD a).toArray⟩ : ByteArray) ++ (⟨#[47]⟩ : ByteArray) ++ (⟨(decD b).toArray⟩ : ByteArray))) (by simp [results, Tryz.f78, go_sem]) rfl ⟨congrArg (fun x => Ending.returned (.string x)) (ByteArray.ext (by rw [show wordT ⟨6, true, (a : Int), (b : Int)⟩ = [112] ++ [120] ++ decD a ++ (47 :: decD b) from by rfl] <;> simp)), hb1⟩
set_option maxHeartbeats 4000000 in
theorem one_7 (p : Bool) (a b : Nat) (h1 : a ≤ 200) (h2 : b ≤ 6) (w : World) :
    Calls Tryz.prog 78 #[.agg #[.int .u8 7, .bool p, .int .i64 (a : Int), .int .i64 (b : Int)]] w fun e w' => e = .returned (.string ⟨(wordT ⟨7, p, a, b⟩).toArray⟩) ∧ Ext w w' := by
  have d1 := dec_len a
  have HA := Lib.hid (fun w' => decimal_any a (by omega) w')
  have f1 : ¬ 9223372036854775807 < 2 + (decD a).length := by omega
  have f2 : ¬ 9223372036854775807 < 2 + (decD a).length + 1 := by omega
  have d2 := dec_len b
  have HB := Lib.hid (fun w' => decimal_any b (by omega) w')
  have f3 : ¬ 9223372036854775807 < 2 + (decD a).length + 1 + (decD b).length := by omega
  cases p
  · have hb0 : Ext w (w.alloc (.cells #[.int .u8 7, .bool false, .int .i64 (a : Int), .int .i64 (b : Int)] 54)) := (Ext.refl _).alloc _
    go_enter Tryz.func78, Tryz.ntmps78
    have hb : Ext (w.alloc (.cells #[.int .u8 7, .bool false, .int .i64 (a : Int), .int .i64 (b : Int)] 54)) (w.alloc (.cells #[.int .u8 7, .bool false, .int .i64 (a : Int), .int .i64 (b : Int)] 54)) := Ext.refl _
    obtain ⟨hc, hf, hz⟩ := hb.facts
    go_wp2_with fail
    go_region_held3 (fun w' => w'.cell? ⟨w.heap.size, 2, none⟩ = some (.int .i64 (a : Int)) ∧ w'.cell? ⟨w.heap.size, 3, none⟩ = some (.int .i64 (b : Int))) (go_keep) (first | (go_at_call 55; (first | ((with_reducible refine (HA.out _).mono ?_); rintro e w1 ⟨rfl, hq⟩; replace hb := hb.trans (Ext.trans (by repeat (first | exact Ext.refl _ | refine Ext.drew ?_ | refine Ext.drewN ?_ _ | refine Ext.alloc ?_ _)) hq); clear hq; obtain ⟨hc, hf, hz⟩ := hb.facts) | ((with_reducible refine (HB.out _).mono ?_); rintro e w1 ⟨rfl, hq⟩; replace hb := hb.trans (Ext.trans (by repeat (first | exact Ext.refl _ | refine Ext.drew ?_ | refine Ext.drewN ?_ _ | refine Ext.alloc ?_ _)) hq); clear hq; obtain ⟨hc, hf, hz⟩ := hb.facts))))
    all_goals go_wp2
    all_goals have hb1 := hb0.trans hb
    all_goals exact bodyPost_ret (v := .string ((⟨#[107]⟩ : ByteArray) ++ (⟨#[121]⟩ : ByteArray) ++ (⟨(decD a).toArray⟩ : ByteArray) ++ (⟨#[47]⟩ : ByteArray) ++ (⟨(decD b).toArray⟩ : ByteArray))) (by simp [results, Tryz.f78, go_sem]) rfl ⟨congrArg (fun x => Ending.returned (.string x)) (ByteArray.ext (by rw [show wordT ⟨7, false, (a : Int), (b : Int)⟩ = [107] ++ [121] ++ decD a ++ (47 :: decD b) from by rfl] <;> simp)), hb1⟩
  · have hb0 : Ext w (w.alloc (.cells #[.int .u8 7, .bool true, .int .i64 (a : Int), .int .i64 (b : Int)] 54)) := (Ext.refl _).alloc _
    go_enter Tryz.func78, Tryz.ntmps78
    have hb : Ext (w.alloc (.cells #[.int .u8 7, .bool true, .int .i64 (a : Int), .int .i64 (b : Int)] 54)) (w.alloc (.cells #[.int .u8 7, .bool true, .int .i64 (a : Int), .int .i64 (b : Int)] 54)) := Ext.refl _
    obtain ⟨hc, hf, hz⟩ := hb.facts
    go_wp2_with fail
    go_region_held3 (fun w' => w'.cell? ⟨w.heap.size, 2, none⟩ = some (.int .i64 (a : Int)) ∧ w'.cell? ⟨w.heap.size, 3, none⟩ = some (.int .i64 (b : Int))) (go_keep) (first | (go_at_call 55; (first | ((with_reducible refine (HA.out _).mono ?_); rintro e w1 ⟨rfl, hq⟩; replace hb := hb.trans (Ext.trans (by repeat (first | exact Ext.refl _ | refine Ext.drew ?_ | refine Ext.drewN ?_ _ | refine Ext.alloc ?_ _)) hq); clear hq; obtain ⟨hc, hf, hz⟩ := hb.facts) | ((with_reducible refine (HB.out _).mono ?_); rintro e w1 ⟨rfl, hq⟩; replace hb := hb.trans (Ext.trans (by repeat (first | exact Ext.refl _ | refine Ext.drew ?_ | refine Ext.drewN ?_ _ | refine Ext.alloc ?_ _)) hq); clear hq; obtain ⟨hc, hf, hz⟩ := hb.facts))))
    all_goals go_wp2
    all_goals have hb1 := hb0.trans hb
    all_goals exact bodyPost_ret (v := .string ((⟨#[112]⟩ : ByteArray) ++ (⟨#[121]⟩ : ByteArray) ++ (⟨(decD a).toArray⟩ : ByteArray) ++ (⟨#[47]⟩ : ByteArray) ++ (⟨(decD b).toArray⟩ : ByteArray))) (by simp [results, Tryz.f78, go_sem]) rfl ⟨congrArg (fun x => Ending.returned (.string x)) (ByteArray.ext (by rw [show wordT ⟨7, true, (a : Int), (b : Int)⟩ = [112] ++ [121] ++ decD a ++ (47 :: decD b) from by rfl] <;> simp)), hb1⟩
set_option maxHeartbeats 4000000 in
theorem one_8 (p : Bool) (a b : Nat) (w : World) :
    Calls Tryz.prog 78 #[.agg #[.int .u8 8, .bool p, .int .i64 (a : Int), .int .i64 (b : Int)]] w fun e w' => e = .returned (.string ⟨(wordT ⟨8, p, a, b⟩).toArray⟩) ∧ Ext w w' := by
  cases p
  · have hb0 : Ext w (w.alloc (.cells #[.int .u8 8, .bool false, .int .i64 (a : Int), .int .i64 (b : Int)] 54)) := (Ext.refl _).alloc _
    go_enter Tryz.func78, Tryz.ntmps78
    go_wp2_with fail
    have hb1 := hb0
    exact bodyPost_ret (v := .string ((⟨#[107]⟩ : ByteArray) ++ (⟨#[115]⟩ : ByteArray))) (by simp [results, Tryz.f78, go_sem]) rfl ⟨congrArg (fun x => Ending.returned (.string x)) (ByteArray.ext (by rw [show wordT ⟨8, false, (a : Int), (b : Int)⟩ = [107] ++ [115] ++ [] ++ [] from by rfl] <;> simp)), hb1⟩
  · have hb0 : Ext w (w.alloc (.cells #[.int .u8 8, .bool true, .int .i64 (a : Int), .int .i64 (b : Int)] 54)) := (Ext.refl _).alloc _
    go_enter Tryz.func78, Tryz.ntmps78
    go_wp2_with fail
    have hb1 := hb0
    exact bodyPost_ret (v := .string ((⟨#[112]⟩ : ByteArray) ++ (⟨#[115]⟩ : ByteArray))) (by simp [results, Tryz.f78, go_sem]) rfl ⟨congrArg (fun x => Ending.returned (.string x)) (ByteArray.ext (by rw [show wordT ⟨8, true, (a : Int), (b : Int)⟩ = [112] ++ [115] ++ [] ++ [] from by rfl] <;> simp)), hb1⟩
set_option maxHeartbeats 4000000 in
theorem one_9 (p : Bool) (a b : Nat) (h1 : a ≤ 200) (w : World) :
    Calls Tryz.prog 78 #[.agg #[.int .u8 9, .bool p, .int .i64 (a : Int), .int .i64 (b : Int)]] w fun e w' => e = .returned (.string ⟨(wordT ⟨9, p, a, b⟩).toArray⟩) ∧ Ext w w' := by
  have d1 := dec_len a
  have HA := Lib.hid (fun w' => decimal_any a (by omega) w')
  cases p
  · have hb0 : Ext w (w.alloc (.cells #[.int .u8 9, .bool false, .int .i64 (a : Int), .int .i64 (b : Int)] 54)) := (Ext.refl _).alloc _
    go_enter Tryz.func78, Tryz.ntmps78
    go_wp2_with (go_at_call 55; ((with_reducible refine (HA.out _).mono ?_); rintro e w1 ⟨rfl, hq1⟩; have hb1 := hb0.trans hq1))
    exact bodyPost_ret (v := .string ((⟨#[111, 110]⟩ : ByteArray) ++ (⟨(decD a).toArray⟩ : ByteArray))) (by simp [results, Tryz.f78, go_sem]) rfl ⟨congrArg (fun x => Ending.returned (.string x)) (ByteArray.ext (by rw [show wordT ⟨9, false, (a : Int), (b : Int)⟩ = [111, 110] ++ decD a from by rfl] <;> simp)), hb1⟩
  · have hb0 : Ext w (w.alloc (.cells #[.int .u8 9, .bool true, .int .i64 (a : Int), .int .i64 (b : Int)] 54)) := (Ext.refl _).alloc _
    go_enter Tryz.func78, Tryz.ntmps78
    go_wp2_with (go_at_call 55; ((with_reducible refine (HA.out _).mono ?_); rintro e w1 ⟨rfl, hq1⟩; have hb1 := hb0.trans hq1))
    exact bodyPost_ret (v := .string ((⟨#[111, 110]⟩ : ByteArray) ++ (⟨(decD a).toArray⟩ : ByteArray))) (by simp [results, Tryz.f78, go_sem]) rfl ⟨congrArg (fun x => Ending.returned (.string x)) (ByteArray.ext (by rw [show wordT ⟨9, true, (a : Int), (b : Int)⟩ = [111, 110] ++ decD a from by rfl] <;> simp)), hb1⟩
set_option maxHeartbeats 4000000 in
theorem one_10 (p : Bool) (a b : Nat) (h1 : a ≤ 200) (w : World) :
    Calls Tryz.prog 78 #[.agg #[.int .u8 10, .bool p, .int .i64 (a : Int), .int .i64 (b : Int)]] w fun e w' => e = .returned (.string ⟨(wordT ⟨10, p, a, b⟩).toArray⟩) ∧ Ext w w' := by
  have d1 := dec_len a
  have HA := Lib.hid (fun w' => decimal_any a (by omega) w')
  cases p
  · have hb0 : Ext w (w.alloc (.cells #[.int .u8 10, .bool false, .int .i64 (a : Int), .int .i64 (b : Int)] 54)) := (Ext.refl _).alloc _
    go_enter Tryz.func78, Tryz.ntmps78
    go_wp2_with (go_at_call 55; ((with_reducible refine (HA.out _).mono ?_); rintro e w1 ⟨rfl, hq1⟩; have hb1 := hb0.trans hq1))
    exact bodyPost_ret (v := .string ((⟨#[107]⟩ : ByteArray) ++ (⟨#[111]⟩ : ByteArray) ++ (⟨(decD a).toArray⟩ : ByteArray))) (by simp [results, Tryz.f78, go_sem]) rfl ⟨congrArg (fun x => Ending.returned (.string x)) (ByteArray.ext (by rw [show wordT ⟨10, false, (a : Int), (b : Int)⟩ = [107] ++ [111] ++ decD a ++ [] from by rfl] <;> simp)), hb1⟩
  · have hb0 : Ext w (w.alloc (.cells #[.int .u8 10, .bool true, .int .i64 (a : Int), .int .i64 (b : Int)] 54)) := (Ext.refl _).alloc _
    go_enter Tryz.func78, Tryz.ntmps78
    go_wp2_with (go_at_call 55; ((with_reducible refine (HA.out _).mono ?_); rintro e w1 ⟨rfl, hq1⟩; have hb1 := hb0.trans hq1))
    exact bodyPost_ret (v := .string ((⟨#[112]⟩ : ByteArray) ++ (⟨#[111]⟩ : ByteArray) ++ (⟨(decD a).toArray⟩ : ByteArray))) (by simp [results, Tryz.f78, go_sem]) rfl ⟨congrArg (fun x => Ending.returned (.string x)) (ByteArray.ext (by rw [show wordT ⟨10, true, (a : Int), (b : Int)⟩ = [112] ++ [111] ++ decD a ++ [] from by rfl] <;> simp)), hb1⟩
theorem one_any (s : St) (h : okSt s = true) (w : World) :
    Calls Tryz.prog 78 #[.agg #[.int .u8 s.k, .bool s.p, .int .i64 s.a, .int .i64 s.b]] w fun e w' => e = .returned (.string ⟨(wordT s).toArray⟩) ∧ Ext w w' := by
  obtain ⟨h0, h1, h2, h3⟩ := ok_ab h
  obtain ⟨k, p, a, b⟩ := s
  have hk := ok_kind h
  simp only at h0 h1 h2 h3 hk ⊢
  clear h
  obtain ⟨a, rfl⟩ : ∃ n : Nat, a = (n : Int) := ⟨a.toNat, by omega⟩
  obtain ⟨b, rfl⟩ : ∃ n : Nat, b = (n : Int) := ⟨b.toNat, by omega⟩
  rcases kind_cases hk with e | e | e | e | e | e | e | e | e | e <;> subst e
  · exact one_1 p a b w
  · exact one_2 p a b w
  · exact one_3 p a b (by omega) w
  · exact one_4 p a b (by omega) w
  · exact one_5 p a b (by omega) w
  · exact one_6 p a b (by omega) (by omega) w
  · exact one_7 p a b (by omega) (by omega) w
  · exact one_8 p a b w
  · exact one_9 p a b (by omega) w
  · exact one_10 p a b (by omega) w
end Go.Proofs.YtjjhoonkooihjaaGreatDoor
/- The reference's Written: the text of a list of stitches. -/
namespace Go.Proofs.YtjjhoonkooihjaaGreatDoor
set_option maxRecDepth 100000
set_option maxRecDepth 100000
open Go.RowKit
theorem join_snoc (c : UInt8) (ws : List (List UInt8)) (x : List UInt8) : joinB c (ws ++ [x]) = if ws = [] then x else joinB c ws ++ [c] ++ x := by
  induction ws with
  | nil => rfl
  | cons y ws ih =>
    rw [if_neg (by simp)]
    cases ws with
    | nil => simp [joinB]
    | cons z ws =>
      rw [if_neg (by simp)] at ih
      rw [List.cons_append, List.cons_append, joinB]
      rw [List.cons_append] at ih
      rw [ih]
      simp [joinB]
set_option maxHeartbeats 8000000 in
theorem written_any (n c : Nat) (A : Option Addr) (l : List St) (w : World) (hl : Vec shSt w A n l) (hn : n ≤ 200) (ho : allB l = true) :
    Calls Tryz.prog 56 #[.slice A n c] w fun e w' => e = .returned (.string ⟨(textL l).toArray⟩) ∧ Ext w w' := by
  have HX := Lib.hid hl
  have HO := Lib.hid ho
  have HL := Lib.hid hl.1
  clear hl ho
  go_enter Tryz.func56, Tryz.ntmps56
  go_wp2_with fail
  go_loopw [3, 4] (fun u i wr => ∃ (S : List UInt8) (k : Nat) (ws : List (List UInt8)), u = .string ⟨S.toArray⟩ ∧ i = .int .i64 k ∧ k ≤ n ∧ S.length ≤ 200 * k ∧ Hid (S = joinB 32 ws) ∧ Hid (k = 0 ↔ ws = []) ∧ Hid (Ext w wr) ∧ Hid (ws ++ (grp (l.drop k)).map wordG = (grp l).map wordG)) (fun _ i _ => n - (intOf i).toNat)
  case atStart => exact ⟨[], 0, [], rfl, rfl, Nat.zero_le _, Nat.zero_le _, Lib.hid rfl, Lib.hid (by simp), Lib.hid (Ext.refl _), Lib.hid (by simp)⟩
  case round =>
    obtain ⟨S, k, ws, rfl, rfl, hk, hsl, HS, HW, HE, HT⟩ := hrel
    by_cases hlt : k < n
    · obtain ⟨b, off, rfl, hb1, hc⟩ := Sts.all (Vec.ext HX.out HE.out) (by omega)
      have HC := Lib.hid hc
      obtain ⟨c1, c2, c3, c4⟩ := hc k hlt
      have hok := allB_at HO.out (k := k) (by rw [HL.out]; omega)
      obtain ⟨s, hs⟩ : ∃ s, l.getD k st0 = s := ⟨_, rfl⟩
      rw [hs] at c1 c2 c3 c4 hok
      have HS0 := Lib.hid hs
      clear hs hc
      obtain ⟨sk, sp, sa, sb⟩ := s
      simp only at c1 c2 c3 c4
      have q0 : (0 : Int) ≤ (k : Int) := by omega
      have q1 : (k : Int) < (n : Int) := by omega
      obtain ⟨T, hT⟩ : ∃ T, wordT ⟨sk, sp, sa, sb⟩ = T := ⟨_, rfl⟩
      have HWC := Lib.hid (show ∀ w', Calls Tryz.prog 78 #[.agg #[.int .u8 sk, .bool sp, .int .i64 sa, .int .i64 sb]] w' fun e w'' => e = .returned (.string ⟨T.toArray⟩) ∧ Ext w' w'' from fun w' => by
        have h9 := one_any ⟨sk, sp, sa, sb⟩ hok w'
        rw [hT] at h9
        exact h9)
      have tl : T.length ≤ 100 := by
        have h9 := wordG_len (x := (⟨sk, sp, sa, sb⟩, 1)) hok
        rw [← hT]
        simpa [wordG] using h9
      have HTG1 := Lib.hid (show wordG (⟨sk, sp, sa, sb⟩, 1) = T by rw [← hT]; simp [wordG])
      have HTT := Lib.hid hT
      clear hT
      by_cases hk0 : k = 0
      · have hws : ws = [] := HW.out.1 hk0
        subst hk0
        simp only [Nat.zero_mul, Nat.add_zero] at c1 c2 c3 c4
        obtain ⟨G, hG⟩ : ∃ G, S ++ T = G := ⟨_, rfl⟩
        have hcat : (⟨S.toArray⟩ ++ ⟨T.toArray⟩ : ByteArray) = ⟨G.toArray⟩ := by rw [← hG]; exact str_app S T
        have HJ := Lib.hid (show ∀ x, joinB 32 (ws ++ [T ++ x]) = G ++ x from fun x => by rw [join_snoc, if_pos hws, ← hG, HS.out, hws]; rfl)
        have hgl : G.length ≤ 200 * 0 + 101 := by rw [← hG, List.length_append]; omega
        clear hG hws
        go_wp2_with (go_at_call 78; go_loud (((with_reducible refine (HWC.out _).mono ?_); rintro e w2 ⟨rfl, hq2⟩; have HE2 := Lib.hid hq2; clear hq2)))
        have HEW := Lib.hid (HE.out.trans HE2.out)
        go_loopw [4, 5] (fun i q wi => ∃ (j m : Nat), i = .int .i64 j ∧ q = .int .i64 m ∧ 1 ≤ m ∧ j + 1 = 0 + m ∧ 0 + m ≤ n ∧ Hid (m = 1 ∨ sk = 1) ∧ Hid (∀ t, t < m → l.getD (0 + t) st0 = ⟨sk, sp, sa, sb⟩) ∧ wi.heap = w2.heap ∧ Hid (Ext w2 wi)) (fun _ q _ => n - 0 - (intOf q).toNat)
        case atStart => exact ⟨0, 1, rfl, rfl, Nat.le_refl _, rfl, by omega, Lib.hid (.inl rfl), Lib.hid (fun t ht => (by obtain rfl : t = 0 := (by omega); exact HS0.out)), rfl, Lib.hid (Ext.refl _)⟩
        case round =>
          obtain ⟨j, m, rfl, rfl, hm1, hjm, hm2, hm3, HA, hheap, HE3⟩ := hrel
          have HE4 := Lib.hid (HE2.out.trans HE3.out)
          have HE5 := Lib.hid (HEW.out.trans HE3.out)
          have hx : l.getD j st0 = ⟨sk, sp, sa, sb⟩ := by
            have h9 := HA.out (m - 1) (by omega)
            rw [show 0 + (m - 1) = j by omega] at h9
            exact h9
          obtain ⟨d1, d2, d3, d4⟩ := HC.out j (by omega)
          rw [hx] at d1 d2 d3 d4
          clear hx
          simp only at d1 d2 d3 d4
          replace d1 := (Below.cell (p := ⟨b, _, none⟩) HE4.out hb1).trans d1
          replace d2 := (Below.cell (p := ⟨b, _, none⟩) HE4.out hb1).trans d2
          replace d3 := (Below.cell (p := ⟨b, _, none⟩) HE4.out hb1).trans d3
          replace d4 := (Below.cell (p := ⟨b, _, none⟩) HE4.out hb1).trans d4
          have p0 : (0 : Int) ≤ (j : Int) := by omega
          have p1 : (j : Int) < (n : Int) := by omega
          obtain ⟨j2, hj2⟩ : ∃ j2, j2 = j + 1 := ⟨_, rfl⟩
          have i1 : IntKind.i64.wrap ((j : Int) + 1) = (j2 : Int) := by rw [IntWalk.i64_in ((j : Int) + 1) ⟨by omega, by omega⟩]; omega
          rw [← hj2] at hjm
          have HJ2 := Lib.hid hj2
          have HJM := Lib.hid hjm
          clear hj2 hjm
          have i2 := IntWalk.i64_in ((m : Int) + 1) ⟨by omega, by omega⟩
          by_cases hk1 : sk = 1
          · by_cases hkm : j2 < n
            · obtain ⟨e1, e2, e3, e4⟩ := HC.out j2 hkm
              replace e1 := (Below.cell (p := ⟨b, _, none⟩) HE4.out hb1).trans e1
              replace e2 := (Below.cell (p := ⟨b, _, none⟩) HE4.out hb1).trans e2
              replace e3 := (Below.cell (p := ⟨b, _, none⟩) HE4.out hb1).trans e3
              replace e4 := (Below.cell (p := ⟨b, _, none⟩) HE4.out hb1).trans e4
              have q2 : (0 : Int) ≤ (j2 : Int) := by omega
              have q3 : (j2 : Int) < (n : Int) := by omega
              by_cases hxy : l.getD j2 st0 = ⟨sk, sp, sa, sb⟩
              · rw [hxy] at e1 e2 e3 e4
                simp only at e1 e2 e3 e4
                have HA2 := Lib.hid (show ∀ t, t < m + 1 → l.getD (0 + t) st0 = ⟨sk, sp, sa, sb⟩ from fun t ht => by
                  by_cases e : t = m
                  · subst e; rw [← HJM.out]; exact hxy
                  · exact HA.out t (by omega))
                clear hxy
                subst hk1
                go_wp2_with fail
                go_quiet (fail)
                go_wp2
                go_roundw
                case rel => exact ⟨j2, m + 1, by go_num, by go_num, by omega, by have := HJM.out; omega, by have := HJM.out; omega, Lib.hid (by first | exact .inr rfl | exact .inr trivial), HA2, hheap, Lib.hid (Ext.drewN HE3.out _)⟩
                case measure => have hjm := HJM.out; simp [intOf] <;> omega
              · generalize hy : l.getD j2 st0 = y at *
                obtain ⟨y1, y2, y3, y4⟩ := y
                simp only at e1 e2 e3 e4
                have hne := run_st_eq (fun e => hxy e)
                have HNE := Lib.hid hxy
                clear hxy
                subst hk1
                have HQ := Lib.hid (show grp (l.drop 0) = (⟨1, sp, sa, sb⟩, m) :: grp (l.drop (0 + m)) by
                  have h9 := grp_run m (l.drop 0) ⟨1, sp, sa, sb⟩ hm1 (by rw [List.length_drop, HL.out]; omega) (fun t ht => by rw [← HA.out t ht]; simp [List.getD_eq_getElem?_getD]) (.inr rfl) (.inr (.inr (by have h8 : (l.drop 0).getD m st0 = ⟨y1, y2, y3, y4⟩ := (by rw [← hy, HJM.out]; simp [List.getD_eq_getElem?_getD]); rw [h8]; exact HNE.out)))
                  rw [h9, List.drop_drop])
                by_cases hm : m = 1
                · subst hm
                  have HF := Lib.hid (show (ws ++ [T]) ++ (grp (l.drop (0 + 1))).map wordG = (grp l).map wordG by
                    rw [← HT.out, HQ.out, ← HTG1.out]
                    simp)
                  have HJK := Lib.hid (show j2 = 0 + 1 by have := HJM.out; omega)
                  go_wp2_with fail
                  go_quiet (fail)
                  go_wp2_with fail
                  go_roundw
                  case rel => exact ⟨G, 0 + 1, ws ++ [T], rfl, by have := HJK.out; subst this; go_num, by omega, by omega, Lib.hid (by have := HJ.out []; rw [List.append_nil, List.append_nil] at this; exact this.symm), Lib.hid (by simp), Lib.hid (Ext.drewN HE5.out _), HF⟩
                  case measure => have hjm := HJM.out; simp [intOf] <;> omega
                · have hm9 : (1 : Int) < (m : Int) := by omega
                  obtain ⟨D, hD⟩ : ∃ D, decD m = D := ⟨_, rfl⟩
                  obtain ⟨G2, hG2⟩ : ∃ G2, G ++ D = G2 := ⟨_, rfl⟩
                  have HIC := Lib.hid (show ∀ w', Calls Tryz.prog 55 #[.int .i64 (m : Int)] w' fun e w'' => e = .returned (.string ⟨D.toArray⟩) ∧ Ext w' w'' from fun w' => by
                    have h9 := decimal_any m (by omega) w'
                    rw [hD] at h9
                    exact h9)
                  have hcat9 : (⟨G.toArray⟩ ++ ⟨D.toArray⟩ : ByteArray) = ⟨G2.toArray⟩ := by rw [← hG2]; exact str_app G D
                  have hTG : wordG (⟨1, sp, sa, sb⟩, m) = T ++ D := by rw [wordG, if_pos (by simp only; omega), HTT.out, hD]
                  have HTG := Lib.hid hTG
                  have dl : D.length ≤ 20 := by rw [← hD]; exact dec_len m
                  have g2l : G2.length ≤ 200 * 0 + 121 := by rw [← hG2, List.length_append]; omega
                  have HG2 := Lib.hid hG2
                  clear hD hG2 hTG
                  have HF := Lib.hid (show (ws ++ [T ++ D]) ++ (grp (l.drop (0 + m))).map wordG = (grp l).map wordG by
                    rw [← HT.out, HQ.out, List.map_cons, HTG.out]
                    simp)
                  go_wp2_with fail
                  go_quiet (fail)
                  go_wp2_with (go_at_call 55; go_loud (((with_reducible refine (HIC.out _).mono ?_); rintro e w7 ⟨rfl, hq7⟩; have HE7 := Lib.hid (HE5.out.trans (Ext.trans (by repeat (first | exact Ext.refl _ | refine Ext.drew ?_ | refine Ext.drewN ?_ _ | refine Ext.alloc ?_ _)) hq7)); clear hq7)))
                  go_roundw
                  case rel => exact ⟨G2, 0 + m, ws ++ [T ++ D], rfl, by rw [← HJM.out], by omega, by omega, Lib.hid (by rw [← HG2.out]; exact (HJ.out D).symm), Lib.hid (by simp <;> omega), HE7, HF⟩
                  case measure => have hjm := HJM.out; simp [intOf] <;> omega
            · have hkm2 : ¬ ((j2 : Int) < (n : Int)) := by omega
              subst hk1
              have HQ := Lib.hid (show grp (l.drop 0) = (⟨1, sp, sa, sb⟩, m) :: grp (l.drop (0 + m)) by
                have h9 := grp_run m (l.drop 0) ⟨1, sp, sa, sb⟩ hm1 (by rw [List.length_drop, HL.out]; omega) (fun t ht => by rw [← HA.out t ht]; simp [List.getD_eq_getElem?_getD]) (.inr rfl) (.inr (.inl (by have := HJM.out; rw [List.length_drop, HL.out]; omega)))
                rw [h9, List.drop_drop])
              by_cases hm : m = 1
              · subst hm
                have HF := Lib.hid (show (ws ++ [T]) ++ (grp (l.drop (0 + 1))).map wordG = (grp l).map wordG by
                  rw [← HT.out, HQ.out, ← HTG1.out]
                  simp)
                have HJK := Lib.hid (show j2 = 0 + 1 by have := HJM.out; omega)
                go_wp2_with fail
                go_quiet (fail)
                go_wp2_with fail
                go_roundw
                case rel => exact ⟨G, 0 + 1, ws ++ [T], rfl, by have := HJK.out; subst this; go_num, by omega, by omega, Lib.hid (by have := HJ.out []; rw [List.append_nil, List.append_nil] at this; exact this.symm), Lib.hid (by simp), Lib.hid (Ext.drewN HE5.out _), HF⟩
                case measure => have hjm := HJM.out; simp [intOf] <;> omega
              · have hm9 : (1 : Int) < (m : Int) := by omega
                obtain ⟨D, hD⟩ : ∃ D, decD m = D := ⟨_, rfl⟩
                obtain ⟨G2, hG2⟩ : ∃ G2, G ++ D = G2 := ⟨_, rfl⟩
                have HIC := Lib.hid (show ∀ w', Calls Tryz.prog 55 #[.int .i64 (m : Int)] w' fun e w'' => e = .returned (.string ⟨D.toArray⟩) ∧ Ext w' w'' from fun w' => by
                  have h9 := decimal_any m (by omega) w'
                  rw [hD] at h9
                  exact h9)
                have hcat9 : (⟨G.toArray⟩ ++ ⟨D.toArray⟩ : ByteArray) = ⟨G2.toArray⟩ := by rw [← hG2]; exact str_app G D
                have hTG : wordG (⟨1, sp, sa, sb⟩, m) = T ++ D := by rw [wordG, if_pos (by simp only; omega), HTT.out, hD]
                have HTG := Lib.hid hTG
                have dl : D.length ≤ 20 := by rw [← hD]; exact dec_len m
                have g2l : G2.length ≤ 200 * 0 + 121 := by rw [← hG2, List.length_append]; omega
                have HG2 := Lib.hid hG2
                clear hD hG2 hTG
                have HF := Lib.hid (show (ws ++ [T ++ D]) ++ (grp (l.drop (0 + m))).map wordG = (grp l).map wordG by
                  rw [← HT.out, HQ.out, List.map_cons, HTG.out]
                  simp)
                go_wp2_with fail
                go_quiet (fail)
                go_wp2_with (go_at_call 55; go_loud (((with_reducible refine (HIC.out _).mono ?_); rintro e w7 ⟨rfl, hq7⟩; have HE7 := Lib.hid (HE5.out.trans (Ext.trans (by repeat (first | exact Ext.refl _ | refine Ext.drew ?_ | refine Ext.drewN ?_ _ | refine Ext.alloc ?_ _)) hq7)); clear hq7)))
                go_roundw
                case rel => exact ⟨G2, 0 + m, ws ++ [T ++ D], rfl, by rw [← HJM.out], by omega, by omega, Lib.hid (by rw [← HG2.out]; exact (HJ.out D).symm), Lib.hid (by simp <;> omega), HE7, HF⟩
                case measure => have hjm := HJM.out; simp [intOf] <;> omega
          · have hk2 : (sk == 1) = false := by simpa using hk1
            have HK := Lib.hid hk1
            obtain rfl : m = 1 := by rcases hm3.out with h | h
                                     · exact h
                                     · exact absurd h hk1
            clear hk1
            have HQ := Lib.hid (show grp (l.drop 0) = (⟨sk, sp, sa, sb⟩, 1) :: grp (l.drop (0 + 1)) by
              have h9 := grp_run 1 (l.drop 0) ⟨sk, sp, sa, sb⟩ hm1 (by rw [List.length_drop, HL.out]; omega) (fun t ht => by rw [← HA.out t ht]; simp [List.getD_eq_getElem?_getD]) (.inl rfl) (.inl HK.out)
              rw [h9, List.drop_drop])
            have HF := Lib.hid (show (ws ++ [T]) ++ (grp (l.drop (0 + 1))).map wordG = (grp l).map wordG by
              rw [← HT.out, HQ.out, ← HTG1.out]
              simp)
            have HJK := Lib.hid (show j2 = 0 + 1 by have := HJM.out; omega)
            go_wp2_with fail
            go_quiet (fail)
            go_wp2_with fail
            go_roundw
            case rel => exact ⟨G, 0 + 1, ws ++ [T], rfl, by have := HJK.out; subst this; go_num, by omega, by omega, Lib.hid (by have := HJ.out []; rw [List.append_nil, List.append_nil] at this; exact this.symm), Lib.hid (by simp), Lib.hid (Ext.drewN HE5.out _), HF⟩
            case measure => have hjm := HJM.out; simp [intOf] <;> omega
      · have hws : ¬ ws = [] := fun h => hk0 (HW.out.2 h)
        obtain ⟨S1, hS1⟩ : ∃ S1, S ++ [32] = S1 := ⟨_, rfl⟩
        obtain ⟨G, hG⟩ : ∃ G, S1 ++ T = G := ⟨_, rfl⟩
        have hcat1 : (⟨S.toArray⟩ ++ ⟨#[32]⟩ : ByteArray) = ⟨S1.toArray⟩ := by rw [← hS1]; exact str_app S [32]
        have hcat : (⟨S1.toArray⟩ ++ ⟨T.toArray⟩ : ByteArray) = ⟨G.toArray⟩ := by rw [← hG]; exact str_app S1 T
        have hs1l : S1.length ≤ 200 * k + 1 := by rw [← hS1, List.length_append]; simp; omega
        have HJ := Lib.hid (show ∀ x, joinB 32 (ws ++ [T ++ x]) = G ++ x from fun x => by rw [join_snoc, if_neg hws, ← hG, ← hS1, HS.out]; simp)
        have hgl : G.length ≤ 200 * k + 101 := by rw [← hG, List.length_append]; omega
        have q9 : (0 : Int) < (k : Int) := by omega
        clear hG hws hS1
        go_wp2_with (go_at_call 78; go_loud (((with_reducible refine (HWC.out _).mono ?_); rintro e w2 ⟨rfl, hq2⟩; have HE2 := Lib.hid hq2; clear hq2)))
        have HEW := Lib.hid (HE.out.trans HE2.out)
        go_loopw [4, 5] (fun i q wi => ∃ (j m : Nat), i = .int .i64 j ∧ q = .int .i64 m ∧ 1 ≤ m ∧ j + 1 = k + m ∧ k + m ≤ n ∧ Hid (m = 1 ∨ sk = 1) ∧ Hid (∀ t, t < m → l.getD (k + t) st0 = ⟨sk, sp, sa, sb⟩) ∧ wi.heap = w2.heap ∧ Hid (Ext w2 wi)) (fun _ q _ => n - k - (intOf q).toNat)
        case atStart => exact ⟨k, 1, rfl, rfl, Nat.le_refl _, rfl, by omega, Lib.hid (.inl rfl), Lib.hid (fun t ht => (by obtain rfl : t = 0 := (by omega); exact HS0.out)), rfl, Lib.hid (Ext.refl _)⟩
        case round =>
          obtain ⟨j, m, rfl, rfl, hm1, hjm, hm2, hm3, HA, hheap, HE3⟩ := hrel
          have HE4 := Lib.hid (HE2.out.trans HE3.out)
          have HE5 := Lib.hid (HEW.out.trans HE3.out)
          have hx : l.getD j st0 = ⟨sk, sp, sa, sb⟩ := by
            have h9 := HA.out (m - 1) (by omega)
            rw [show k + (m - 1) = j by omega] at h9
            exact h9
          obtain ⟨d1, d2, d3, d4⟩ := HC.out j (by omega)
          rw [hx] at d1 d2 d3 d4
          clear hx
          simp only at d1 d2 d3 d4
          replace d1 := (Below.cell (p := ⟨b, _, none⟩) HE4.out hb1).trans d1
          replace d2 := (Below.cell (p := ⟨b, _, none⟩) HE4.out hb1).trans d2
          replace d3 := (Below.cell (p := ⟨b, _, none⟩) HE4.out hb1).trans d3
          replace d4 := (Below.cell (p := ⟨b, _, none⟩) HE4.out hb1).trans d4
          have p0 : (0 : Int) ≤ (j : Int) := by omega
          have p1 : (j : Int) < (n : Int) := by omega
          obtain ⟨j2, hj2⟩ : ∃ j2, j2 = j + 1 := ⟨_, rfl⟩
          have i1 : IntKind.i64.wrap ((j : Int) + 1) = (j2 : Int) := by rw [IntWalk.i64_in ((j : Int) + 1) ⟨by omega, by omega⟩]; omega
          rw [← hj2] at hjm
          have HJ2 := Lib.hid hj2
          have HJM := Lib.hid hjm
          clear hj2 hjm
          have i2 := IntWalk.i64_in ((m : Int) + 1) ⟨by omega, by omega⟩
          by_cases hk1 : sk = 1
          · by_cases hkm : j2 < n
            · obtain ⟨e1, e2, e3, e4⟩ := HC.out j2 hkm
              replace e1 := (Below.cell (p := ⟨b, _, none⟩) HE4.out hb1).trans e1
              replace e2 := (Below.cell (p := ⟨b, _, none⟩) HE4.out hb1).trans e2
              replace e3 := (Below.cell (p := ⟨b, _, none⟩) HE4.out hb1).trans e3
              replace e4 := (Below.cell (p := ⟨b, _, none⟩) HE4.out hb1).trans e4
              have q2 : (0 : Int) ≤ (j2 : Int) := by omega
              have q3 : (j2 : Int) < (n : Int) := by omega
              by_cases hxy : l.getD j2 st0 = ⟨sk, sp, sa, sb⟩
              · rw [hxy] at e1 e2 e3 e4
                simp only at e1 e2 e3 e4
                have HA2 := Lib.hid (show ∀ t, t < m + 1 → l.getD (k + t) st0 = ⟨sk, sp, sa, sb⟩ from fun t ht => by
                  by_cases e : t = m
                  · subst e; rw [← HJM.out]; exact hxy
                  · exact HA.out t (by omega))
                clear hxy
                subst hk1
                go_wp2_with fail
                go_quiet (fail)
                go_wp2
                go_roundw
                case rel => exact ⟨j2, m + 1, by go_num, by go_num, by omega, by have := HJM.out; omega, by have := HJM.out; omega, Lib.hid (by first | exact .inr rfl | exact .inr trivial), HA2, hheap, Lib.hid (Ext.drewN HE3.out _)⟩
                case measure => have hjm := HJM.out; simp [intOf] <;> omega
              · generalize hy : l.getD j2 st0 = y at *
                obtain ⟨y1, y2, y3, y4⟩ := y
                simp only at e1 e2 e3 e4
                have hne := run_st_eq (fun e => hxy e)
                have HNE := Lib.hid hxy
                clear hxy
                subst hk1
                have HQ := Lib.hid (show grp (l.drop k) = (⟨1, sp, sa, sb⟩, m) :: grp (l.drop (k + m)) by
                  have h9 := grp_run m (l.drop k) ⟨1, sp, sa, sb⟩ hm1 (by rw [List.length_drop, HL.out]; omega) (fun t ht => by rw [← HA.out t ht]; simp [List.getD_eq_getElem?_getD]) (.inr rfl) (.inr (.inr (by have h8 : (l.drop k).getD m st0 = ⟨y1, y2, y3, y4⟩ := (by rw [← hy, HJM.out]; simp [List.getD_eq_getElem?_getD]); rw [h8]; exact HNE.out)))
                  rw [h9, List.drop_drop])
                by_cases hm : m = 1
                · subst hm
                  have HF := Lib.hid (show (ws ++ [T]) ++ (grp (l.drop (k + 1))).map wordG = (grp l).map wordG by
                    rw [← HT.out, HQ.out, ← HTG1.out]
                    simp)
                  have HJK := Lib.hid (show j2 = k + 1 by have := HJM.out; omega)
                  go_wp2_with fail
                  go_quiet (fail)
                  go_wp2_with fail
                  go_roundw
                  case rel => exact ⟨G, k + 1, ws ++ [T], rfl, by have := HJK.out; subst this; go_num, by omega, by omega, Lib.hid (by have := HJ.out []; rw [List.append_nil, List.append_nil] at this; exact this.symm), Lib.hid (by simp), Lib.hid (Ext.drewN HE5.out _), HF⟩
                  case measure => have hjm := HJM.out; simp [intOf] <;> omega
                · have hm9 : (1 : Int) < (m : Int) := by omega
                  obtain ⟨D, hD⟩ : ∃ D, decD m = D := ⟨_, rfl⟩
                  obtain ⟨G2, hG2⟩ : ∃ G2, G ++ D = G2 := ⟨_, rfl⟩
                  have HIC := Lib.hid (show ∀ w', Calls Tryz.prog 55 #[.int .i64 (m : Int)] w' fun e w'' => e = .returned (.string ⟨D.toArray⟩) ∧ Ext w' w'' from fun w' => by
                    have h9 := decimal_any m (by omega) w'
                    rw [hD] at h9
                    exact h9)
                  have hcat9 : (⟨G.toArray⟩ ++ ⟨D.toArray⟩ : ByteArray) = ⟨G2.toArray⟩ := by rw [← hG2]; exact str_app G D
                  have hTG : wordG (⟨1, sp, sa, sb⟩, m) = T ++ D := by rw [wordG, if_pos (by simp only; omega), HTT.out, hD]
                  have HTG := Lib.hid hTG
                  have dl : D.length ≤ 20 := by rw [← hD]; exact dec_len m
                  have g2l : G2.length ≤ 200 * k + 121 := by rw [← hG2, List.length_append]; omega
                  have HG2 := Lib.hid hG2
                  clear hD hG2 hTG
                  have HF := Lib.hid (show (ws ++ [T ++ D]) ++ (grp (l.drop (k + m))).map wordG = (grp l).map wordG by
                    rw [← HT.out, HQ.out, List.map_cons, HTG.out]
                    simp)
                  go_wp2_with fail
                  go_quiet (fail)
                  go_wp2_with (go_at_call 55; go_loud (((with_reducible refine (HIC.out _).mono ?_); rintro e w7 ⟨rfl, hq7⟩; have HE7 := Lib.hid (HE5.out.trans (Ext.trans (by repeat (first | exact Ext.refl _ | refine Ext.drew ?_ | refine Ext.drewN ?_ _ | refine Ext.alloc ?_ _)) hq7)); clear hq7)))
                  go_roundw
                  case rel => exact ⟨G2, k + m, ws ++ [T ++ D], rfl, by rw [← HJM.out], by omega, by omega, Lib.hid (by rw [← HG2.out]; exact (HJ.out D).symm), Lib.hid (by simp <;> omega), HE7, HF⟩
                  case measure => have hjm := HJM.out; simp [intOf] <;> omega
            · have hkm2 : ¬ ((j2 : Int) < (n : Int)) := by omega
              subst hk1
              have HQ := Lib.hid (show grp (l.drop k) = (⟨1, sp, sa, sb⟩, m) :: grp (l.drop (k + m)) by
                have h9 := grp_run m (l.drop k) ⟨1, sp, sa, sb⟩ hm1 (by rw [List.length_drop, HL.out]; omega) (fun t ht => by rw [← HA.out t ht]; simp [List.getD_eq_getElem?_getD]) (.inr rfl) (.inr (.inl (by have := HJM.out; rw [List.length_drop, HL.out]; omega)))
                rw [h9, List.drop_drop])
              by_cases hm : m = 1
              · subst hm
                have HF := Lib.hid (show (ws ++ [T]) ++ (grp (l.drop (k + 1))).map wordG = (grp l).map wordG by
                  rw [← HT.out, HQ.out, ← HTG1.out]
                  simp)
                have HJK := Lib.hid (show j2 = k + 1 by have := HJM.out; omega)
                go_wp2_with fail
                go_quiet (fail)
                go_wp2_with fail
                go_roundw
                case rel => exact ⟨G, k + 1, ws ++ [T], rfl, by have := HJK.out; subst this; go_num, by omega, by omega, Lib.hid (by have := HJ.out []; rw [List.append_nil, List.append_nil] at this; exact this.symm), Lib.hid (by simp), Lib.hid (Ext.drewN HE5.out _), HF⟩
                case measure => have hjm := HJM.out; simp [intOf] <;> omega
              · have hm9 : (1 : Int) < (m : Int) := by omega
                obtain ⟨D, hD⟩ : ∃ D, decD m = D := ⟨_, rfl⟩
                obtain ⟨G2, hG2⟩ : ∃ G2, G ++ D = G2 := ⟨_, rfl⟩
                have HIC := Lib.hid (show ∀ w', Calls Tryz.prog 55 #[.int .i64 (m : Int)] w' fun e w'' => e = .returned (.string ⟨D.toArray⟩) ∧ Ext w' w'' from fun w' => by
                  have h9 := decimal_any m (by omega) w'
                  rw [hD] at h9
                  exact h9)
                have hcat9 : (⟨G.toArray⟩ ++ ⟨D.toArray⟩ : ByteArray) = ⟨G2.toArray⟩ := by rw [← hG2]; exact str_app G D
                have hTG : wordG (⟨1, sp, sa, sb⟩, m) = T ++ D := by rw [wordG, if_pos (by simp only; omega), HTT.out, hD]
                have HTG := Lib.hid hTG
                have dl : D.length ≤ 20 := by rw [← hD]; exact dec_len m
                have g2l : G2.length ≤ 200 * k + 121 := by rw [← hG2, List.length_append]; omega
                have HG2 := Lib.hid hG2
                clear hD hG2 hTG
                have HF := Lib.hid (show (ws ++ [T ++ D]) ++ (grp (l.drop (k + m))).map wordG = (grp l).map wordG by
                  rw [← HT.out, HQ.out, List.map_cons, HTG.out]
                  simp)
                go_wp2_with fail
                go_quiet (fail)
                go_wp2_with (go_at_call 55; go_loud (((with_reducible refine (HIC.out _).mono ?_); rintro e w7 ⟨rfl, hq7⟩; have HE7 := Lib.hid (HE5.out.trans (Ext.trans (by repeat (first | exact Ext.refl _ | refine Ext.drew ?_ | refine Ext.drewN ?_ _ | refine Ext.alloc ?_ _)) hq7)); clear hq7)))
                go_roundw
                case rel => exact ⟨G2, k + m, ws ++ [T ++ D], rfl, by rw [← HJM.out], by omega, by omega, Lib.hid (by rw [← HG2.out]; exact (HJ.out D).symm), Lib.hid (by simp <;> omega), HE7, HF⟩
                case measure => have hjm := HJM.out; simp [intOf] <;> omega
          · have hk2 : (sk == 1) = false := by simpa using hk1
            have HK := Lib.hid hk1
            obtain rfl : m = 1 := by rcases hm3.out with h | h
                                     · exact h
                                     · exact absurd h hk1
            clear hk1
            have HQ := Lib.hid (show grp (l.drop k) = (⟨sk, sp, sa, sb⟩, 1) :: grp (l.drop (k + 1)) by
              have h9 := grp_run 1 (l.drop k) ⟨sk, sp, sa, sb⟩ hm1 (by rw [List.length_drop, HL.out]; omega) (fun t ht => by rw [← HA.out t ht]; simp [List.getD_eq_getElem?_getD]) (.inl rfl) (.inl HK.out)
              rw [h9, List.drop_drop])
            have HF := Lib.hid (show (ws ++ [T]) ++ (grp (l.drop (k + 1))).map wordG = (grp l).map wordG by
              rw [← HT.out, HQ.out, ← HTG1.out]
              simp)
            have HJK := Lib.hid (show j2 = k + 1 by have := HJM.out; omega)
            go_wp2_with fail
            go_quiet (fail)
            go_wp2_with fail
            go_roundw
            case rel => exact ⟨G, k + 1, ws ++ [T], rfl, by have := HJK.out; subst this; go_num, by omega, by omega, Lib.hid (by have := HJ.out []; rw [List.append_nil, List.append_nil] at this; exact this.symm), Lib.hid (by simp), Lib.hid (Ext.drewN HE5.out _), HF⟩
            case measure => have hjm := HJM.out; simp [intOf] <;> omega
    · obtain rfl : k = n := by omega
      have HV0 := Lib.hid (show ws = (grp l).map wordG by
        have h9 := HT.out
        rw [List.drop_of_length_le (Nat.le_of_eq HL.out)] at h9
        simpa [grp] using h9)
      have HS9 := Lib.hid (show S = textL l by rw [HS.out, HV0.out]; rfl)
      go_wp2_with fail
      go_ret
      exact ⟨by rw [HS9.out]; rfl, HE.out⟩
end Go.Proofs.YtjjhoonkooihjaaGreatDoor
