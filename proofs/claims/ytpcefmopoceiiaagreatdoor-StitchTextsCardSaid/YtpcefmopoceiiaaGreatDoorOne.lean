/- The reference's text of a stitch. -/
import Derived.Test.YtpcefmopoceiiaaGreatDoorDec
import Derived.Test.YtpcefmopoceiiaaGreatDoorSts
import Derived.Test.YtpcefmopoceiiaaGreatDoorTextA
namespace Go.Proofs.YtpcefmopoceiiaaGreatDoor
set_option maxRecDepth 100000
set_option maxRecDepth 100000
open Go.RowKit
set_option maxHeartbeats 4000000 in
theorem one_1 (p : Bool) (a b : Nat) (w : World) :
    Calls Tryz.prog 35 #[.agg #[.int .u8 1, .bool p, .int .i64 (a : Int), .int .i64 (b : Int)]] w fun e w' => e = .returned (.string ⟨(wordT ⟨1, p, a, b⟩).toArray⟩) ∧ Ext w w' := by
  cases p
  · have hb0 : Ext w (w.alloc (.cells #[.int .u8 1, .bool false, .int .i64 (a : Int), .int .i64 (b : Int)] 42)) := (Ext.refl _).alloc _
    go_enter Tryz.func35, Tryz.ntmps35
    go_wp2_with fail
    have hb1 := hb0
    exact bodyPost_ret (v := .string ((⟨#[107]⟩ : ByteArray))) (by simp [results, Tryz.f35, go_sem]) rfl ⟨congrArg (fun x => Ending.returned (.string x)) (ByteArray.ext (by rw [show wordT ⟨1, false, (a : Int), (b : Int)⟩ = [107] ++ [] ++ [] ++ [] from by rfl] <;> simp)), hb1⟩
  · have hb0 : Ext w (w.alloc (.cells #[.int .u8 1, .bool true, .int .i64 (a : Int), .int .i64 (b : Int)] 42)) := (Ext.refl _).alloc _
    go_enter Tryz.func35, Tryz.ntmps35
    go_wp2_with fail
    have hb1 := hb0
    exact bodyPost_ret (v := .string ((⟨#[112]⟩ : ByteArray))) (by simp [results, Tryz.f35, go_sem]) rfl ⟨congrArg (fun x => Ending.returned (.string x)) (ByteArray.ext (by rw [show wordT ⟨1, true, (a : Int), (b : Int)⟩ = [112] ++ [] ++ [] ++ [] from by rfl] <;> simp)), hb1⟩
set_option maxHeartbeats 4000000 in
theorem one_2 (p : Bool) (a b : Nat) (w : World) :
    Calls Tryz.prog 35 #[.agg #[.int .u8 2, .bool p, .int .i64 (a : Int), .int .i64 (b : Int)]] w fun e w' => e = .returned (.string ⟨(wordT ⟨2, p, a, b⟩).toArray⟩) ∧ Ext w w' := by
  cases p
  · have hb0 : Ext w (w.alloc (.cells #[.int .u8 2, .bool false, .int .i64 (a : Int), .int .i64 (b : Int)] 42)) := (Ext.refl _).alloc _
    go_enter Tryz.func35, Tryz.ntmps35
    go_wp2_with fail
    have hb1 := hb0
    exact bodyPost_ret (v := .string ((⟨#[121, 111]⟩ : ByteArray))) (by simp [results, Tryz.f35, go_sem]) rfl ⟨congrArg (fun x => Ending.returned (.string x)) (ByteArray.ext (by rw [show wordT ⟨2, false, (a : Int), (b : Int)⟩ = [121, 111] from by rfl] <;> simp)), hb1⟩
  · have hb0 : Ext w (w.alloc (.cells #[.int .u8 2, .bool true, .int .i64 (a : Int), .int .i64 (b : Int)] 42)) := (Ext.refl _).alloc _
    go_enter Tryz.func35, Tryz.ntmps35
    go_wp2_with fail
    have hb1 := hb0
    exact bodyPost_ret (v := .string ((⟨#[121, 111]⟩ : ByteArray))) (by simp [results, Tryz.f35, go_sem]) rfl ⟨congrArg (fun x => Ending.returned (.string x)) (ByteArray.ext (by rw [show wordT ⟨2, true, (a : Int), (b : Int)⟩ = [121, 111] from by rfl] <;> simp)), hb1⟩
set_option maxHeartbeats 4000000 in
theorem one_3 (p : Bool) (a b : Nat) (h1 : a ≤ 200) (w : World) :
    Calls Tryz.prog 35 #[.agg #[.int .u8 3, .bool p, .int .i64 (a : Int), .int .i64 (b : Int)]] w fun e w' => e = .returned (.string ⟨(wordT ⟨3, p, a, b⟩).toArray⟩) ∧ Ext w w' := by
  have d1 := dec_len a
  have HA := Lib.hid (fun w' => decimal_any a (by omega) w')
  cases p
  · have hb0 : Ext w (w.alloc (.cells #[.int .u8 3, .bool false, .int .i64 (a : Int), .int .i64 (b : Int)] 42)) := (Ext.refl _).alloc _
    go_enter Tryz.func35, Tryz.ntmps35
    go_wp2_with (go_at_call 36; ((with_reducible refine (HA.out _).mono ?_); rintro e w1 ⟨rfl, hq1⟩; have hb1 := hb0.trans hq1))
    exact bodyPost_ret (v := .string ((⟨#[107]⟩ : ByteArray) ++ (⟨#[102]⟩ : ByteArray) ++ (⟨(decD a).toArray⟩ : ByteArray))) (by simp [results, Tryz.f35, go_sem]) rfl ⟨congrArg (fun x => Ending.returned (.string x)) (ByteArray.ext (by rw [show wordT ⟨3, false, (a : Int), (b : Int)⟩ = [107] ++ [102] ++ decD a ++ [] from by rfl] <;> simp)), hb1⟩
  · have hb0 : Ext w (w.alloc (.cells #[.int .u8 3, .bool true, .int .i64 (a : Int), .int .i64 (b : Int)] 42)) := (Ext.refl _).alloc _
    go_enter Tryz.func35, Tryz.ntmps35
    go_wp2_with (go_at_call 36; ((with_reducible refine (HA.out _).mono ?_); rintro e w1 ⟨rfl, hq1⟩; have hb1 := hb0.trans hq1))
    exact bodyPost_ret (v := .string ((⟨#[112]⟩ : ByteArray) ++ (⟨#[102]⟩ : ByteArray) ++ (⟨(decD a).toArray⟩ : ByteArray))) (by simp [results, Tryz.f35, go_sem]) rfl ⟨congrArg (fun x => Ending.returned (.string x)) (ByteArray.ext (by rw [show wordT ⟨3, true, (a : Int), (b : Int)⟩ = [112] ++ [102] ++ decD a ++ [] from by rfl] <;> simp)), hb1⟩
set_option maxHeartbeats 4000000 in
theorem one_4 (p : Bool) (a b : Nat) (h1 : a ≤ 200) (w : World) :
    Calls Tryz.prog 35 #[.agg #[.int .u8 4, .bool p, .int .i64 (a : Int), .int .i64 (b : Int)]] w fun e w' => e = .returned (.string ⟨(wordT ⟨4, p, a, b⟩).toArray⟩) ∧ Ext w w' := by
  have d1 := dec_len a
  have HA := Lib.hid (fun w' => decimal_any a (by omega) w')
  cases p
  · have hb0 : Ext w (w.alloc (.cells #[.int .u8 4, .bool false, .int .i64 (a : Int), .int .i64 (b : Int)] 42)) := (Ext.refl _).alloc _
    go_enter Tryz.func35, Tryz.ntmps35
    go_wp2_with (go_at_call 36; ((with_reducible refine (HA.out _).mono ?_); rintro e w1 ⟨rfl, hq1⟩; have hb1 := hb0.trans hq1))
    exact bodyPost_ret (v := .string ((⟨#[107]⟩ : ByteArray) ++ (⟨#[108]⟩ : ByteArray) ++ (⟨(decD a).toArray⟩ : ByteArray))) (by simp [results, Tryz.f35, go_sem]) rfl ⟨congrArg (fun x => Ending.returned (.string x)) (ByteArray.ext (by rw [show wordT ⟨4, false, (a : Int), (b : Int)⟩ = [107] ++ [108] ++ decD a ++ [] from by rfl] <;> simp)), hb1⟩
  · have hb0 : Ext w (w.alloc (.cells #[.int .u8 4, .bool true, .int .i64 (a : Int), .int .i64 (b : Int)] 42)) := (Ext.refl _).alloc _
    go_enter Tryz.func35, Tryz.ntmps35
    go_wp2_with (go_at_call 36; ((with_reducible refine (HA.out _).mono ?_); rintro e w1 ⟨rfl, hq1⟩; have hb1 := hb0.trans hq1))
    exact bodyPost_ret (v := .string ((⟨#[112]⟩ : ByteArray) ++ (⟨#[108]⟩ : ByteArray) ++ (⟨(decD a).toArray⟩ : ByteArray))) (by simp [results, Tryz.f35, go_sem]) rfl ⟨congrArg (fun x => Ending.returned (.string x)) (ByteArray.ext (by rw [show wordT ⟨4, true, (a : Int), (b : Int)⟩ = [112] ++ [108] ++ decD a ++ [] from by rfl] <;> simp)), hb1⟩
set_option maxHeartbeats 4000000 in
theorem one_5 (p : Bool) (a b : Nat) (h1 : a ≤ 200) (w : World) :
    Calls Tryz.prog 35 #[.agg #[.int .u8 5, .bool p, .int .i64 (a : Int), .int .i64 (b : Int)]] w fun e w' => e = .returned (.string ⟨(wordT ⟨5, p, a, b⟩).toArray⟩) ∧ Ext w w' := by
  have d1 := dec_len a
  have HA := Lib.hid (fun w' => decimal_any a (by omega) w')
  cases p
  · have hb0 : Ext w (w.alloc (.cells #[.int .u8 5, .bool false, .int .i64 (a : Int), .int .i64 (b : Int)] 42)) := (Ext.refl _).alloc _
    go_enter Tryz.func35, Tryz.ntmps35
    go_wp2_with (go_at_call 36; ((with_reducible refine (HA.out _).mono ?_); rintro e w1 ⟨rfl, hq1⟩; have hb1 := hb0.trans hq1))
    exact bodyPost_ret (v := .string ((⟨#[107]⟩ : ByteArray) ++ (⟨#[109]⟩ : ByteArray) ++ (⟨(decD a).toArray⟩ : ByteArray))) (by simp [results, Tryz.f35, go_sem]) rfl ⟨congrArg (fun x => Ending.returned (.string x)) (ByteArray.ext (by rw [show wordT ⟨5, false, (a : Int), (b : Int)⟩ = [107] ++ [109] ++ decD a ++ [] from by rfl] <;> simp)), hb1⟩
  · have hb0 : Ext w (w.alloc (.cells #[.int .u8 5, .bool true, .int .i64 (a : Int), .int .i64 (b : Int)] 42)) := (Ext.refl _).alloc _
    go_enter Tryz.func35, Tryz.ntmps35
    go_wp2_with (go_at_call 36; ((with_reducible refine (HA.out _).mono ?_); rintro e w1 ⟨rfl, hq1⟩; have hb1 := hb0.trans hq1))
    exact bodyPost_ret (v := .string ((⟨#[112]⟩ : ByteArray) ++ (⟨#[109]⟩ : ByteArray) ++ (⟨(decD a).toArray⟩ : ByteArray))) (by simp [results, Tryz.f35, go_sem]) rfl ⟨congrArg (fun x => Ending.returned (.string x)) (ByteArray.ext (by rw [show wordT ⟨5, true, (a : Int), (b : Int)⟩ = [112] ++ [109] ++ decD a ++ [] from by rfl] <;> simp)), hb1⟩
set_option maxHeartbeats 4000000 in
theorem one_6 (p : Bool) (a b : Nat) (h1 : a ≤ 200) (h2 : b ≤ 6) (w : World) :
    Calls Tryz.prog 35 #[.agg #[.int .u8 6, .bool p, .int .i64 (a : Int), .int .i64 (b : Int)]] w fun e w' => e = .returned (.string ⟨(wordT ⟨6, p, a, b⟩).toArray⟩) ∧ Ext w w' := by
  have d1 := dec_len a
  have HA := Lib.hid (fun w' => decimal_any a (by omega) w')
  have f1 : ¬ 9223372036854775807 < 2 + (decD a).length := by omega
  have f2 : ¬ 9223372036854775807 < 2 + (decD a).length + 1 := by omega
  have d2 := dec_len b
  have HB := Lib.hid (fun w' => decimal_any b (by omega) w')
  have f3 : ¬ 9223372036854775807 < 2 + (decD a).length + 1 + (decD b).length := by omega
  cases p
  · have hb0 : Ext w (w.alloc (.cells #[.int .u8 6, .bool false, .int .i64 (a : Int), .int .i64 (b : Int)] 42)) := (Ext.refl _).alloc _
    go_enter Tryz.func35, Tryz.ntmps35
    have hb : Ext (w.alloc (.cells #[.int .u8 6, .bool false, .int .i64 (a : Int), .int .i64 (b : Int)] 42)) (w.alloc (.cells #[.int .u8 6, .bool false, .int .i64 (a : Int), .int .i64 (b : Int)] 42)) := Ext.refl _
    obtain ⟨hc, hf, hz⟩ := hb.facts
    go_wp2_with fail
    go_region_held3 (fun w' => w'.cell? ⟨w.heap.size, 2, none⟩ = some (.int .i64 (a : Int)) ∧ w'.cell? ⟨w.heap.size, 3, none⟩ = some (.int .i64 (b : Int))) (go_keep) (first | (go_at_call 36; (first | ((with_reducible refine (HA.out _).mono ?_); rintro e w1 ⟨rfl, hq⟩; replace hb := hb.trans (Ext.trans (by repeat (first | exact Ext.refl _ | refine Ext.drew ?_ | refine Ext.drewN ?_ _ | refine Ext.alloc ?_ _)) hq); clear hq; obtain ⟨hc, hf, hz⟩ := hb.facts) | ((with_reducible refine (HB.out _).mono ?_); rintro e w1 ⟨rfl, hq⟩; replace hb := hb.trans (Ext.trans (by repeat (first | exact Ext.refl _ | refine Ext.drew ?_ | refine Ext.drewN ?_ _ | refine Ext.alloc ?_ _)) hq); clear hq; obtain ⟨hc, hf, hz⟩ := hb.facts))))
    all_goals go_wp2
    all_goals have hb1 := hb0.trans hb
    all_goals exact bodyPost_ret (v := .string ((⟨#[107]⟩ : ByteArray) ++ (⟨#[120]⟩ : ByteArray) ++ (⟨(decD a).toArray⟩ : ByteArray) ++ (⟨#[47]⟩ : ByteArray) ++ (⟨(decD b).toArray⟩ : ByteArray))) (by simp [results, Tryz.f35, go_sem]) rfl ⟨congrArg (fun x => Ending.returned (.string x)) (ByteArray.ext (by rw [show wordT ⟨6, false, (a : Int), (b : Int)⟩ = [107] ++ [120] ++ decD a ++ (47 :: decD b) from by rfl] <;> simp)), hb1⟩
  · have hb0 : Ext w (w.alloc (.cells #[.int .u8 6, .bool true, .int .i64 (a : Int), .int .i64 (b : Int)] 42)) := (Ext.refl _).alloc _
    go_enter Tryz.func35, Tryz.ntmps35
    have hb : Ext (w.alloc (.cells #[.int .u8 6, .bool true, .int .i64 (a : Int), .int .i64 (b : Int)] 42)) (w.alloc (.cells #[.int .u8 6, .bool true, .int .i64 (a : Int), .int .i64 (b : Int)] 42)) := Ext.refl _
    obtain ⟨hc, hf, hz⟩ := hb.facts
    go_wp2_with fail
    go_region_held3 (fun w' => w'.cell? ⟨w.heap.size, 2, none⟩ = some (.int .i64 (a : Int)) ∧ w'.cell? ⟨w.heap.size, 3, none⟩ = some (.int .i64 (b : Int))) (go_keep) (first | (go_at_call 36; (first | ((with_reducible refine (HA.out _).mono ?_); rintro e w1 ⟨rfl, hq⟩; replace hb := hb.trans (Ext.trans (by repeat (first | exact Ext.refl _ | refine Ext.drew ?_ | refine Ext.drewN ?_ _ | refine Ext.alloc ?_ _)) hq); clear hq; obtain ⟨hc, hf, hz⟩ := hb.facts) | ((with_reducible refine (HB.out _).mono ?_); rintro e w1 ⟨rfl, hq⟩; replace hb := hb.trans (Ext.trans (by repeat (first | exact Ext.refl _ | refine Ext.drew ?_ | refine Ext.drewN ?_ _ | refine Ext.alloc ?_ _)) hq); clear hq; obtain ⟨hc, hf, hz⟩ := hb.facts))))
    all_goals go_wp2
    all_goals have hb1 := hb0.trans hb
    all_goals exact bodyPost_ret (v := .string ((⟨#[112]⟩ : ByteArray) ++ (⟨#[120]⟩ : ByteArray) ++ (⟨(decD a).toArray⟩ : ByteArray) ++ (⟨#[47]⟩ : ByteArray) ++ (⟨(decD b).toArray⟩ : ByteArray))) (by simp [results, Tryz.f35, go_sem]) rfl ⟨congrArg (fun x => Ending.returned (.string x)) (ByteArray.ext (by rw [show wordT ⟨6, true, (a : Int), (b : Int)⟩ = [112] ++ [120] ++ decD a ++ (47 :: decD b) from by rfl] <;> simp)), hb1⟩
set_option maxHeartbeats 4000000 in
theorem one_7 (p : Bool) (a b : Nat) (h1 : a ≤ 200) (h2 : b ≤ 6) (w : World) :
    Calls Tryz.prog 35 #[.agg #[.int .u8 7, .bool p, .int .i64 (a : Int), .int .i64 (b : Int)]] w fun e w' => e = .returned (.string ⟨(wordT ⟨7, p, a, b⟩).toArray⟩) ∧ Ext w w' := by
  have d1 := dec_len a
  have HA := Lib.hid (fun w' => decimal_any a (by omega) w')
  have f1 : ¬ 9223372036854775807 < 2 + (decD a).length := by omega
  have f2 : ¬ 9223372036854775807 < 2 + (decD a).length + 1 := by omega
  have d2 := dec_len b
  have HB := Lib.hid (fun w' => decimal_any b (by omega) w')
  have f3 : ¬ 9223372036854775807 < 2 + (decD a).length + 1 + (decD b).length := by omega
  cases p
  · have hb0 : Ext w (w.alloc (.cells #[.int .u8 7, .bool false, .int .i64 (a : Int), .int .i64 (b : Int)] 42)) := (Ext.refl _).alloc _
    go_enter Tryz.func35, Tryz.ntmps35
    have hb : Ext (w.alloc (.cells #[.int .u8 7, .bool false, .int .i64 (a : Int), .int .i64 (b : Int)] 42)) (w.alloc (.cells #[.int .u8 7, .bool false, .int .i64 (a : Int), .int .i64 (b : Int)] 42)) := Ext.refl _
    obtain ⟨hc, hf, hz⟩ := hb.facts
    go_wp2_with fail
    go_region_held3 (fun w' => w'.cell? ⟨w.heap.size, 2, none⟩ = some (.int .i64 (a : Int)) ∧ w'.cell? ⟨w.heap.size, 3, none⟩ = some (.int .i64 (b : Int))) (go_keep) (first | (go_at_call 36; (first | ((with_reducible refine (HA.out _).mono ?_); rintro e w1 ⟨rfl, hq⟩; replace hb := hb.trans (Ext.trans (by repeat (first | exact Ext.refl _ | refine Ext.drew ?_ | refine Ext.drewN ?_ _ | refine Ext.alloc ?_ _)) hq); clear hq; obtain ⟨hc, hf, hz⟩ := hb.facts) | ((with_reducible refine (HB.out _).mono ?_); rintro e w1 ⟨rfl, hq⟩; replace hb := hb.trans (Ext.trans (by repeat (first | exact Ext.refl _ | refine Ext.drew ?_ | refine Ext.drewN ?_ _ | refine Ext.alloc ?_ _)) hq); clear hq; obtain ⟨hc, hf, hz⟩ := hb.facts))))
    all_goals go_wp2
    all_goals have hb1 := hb0.trans hb
    all_goals exact bodyPost_ret (v := .string ((⟨#[107]⟩ : ByteArray) ++ (⟨#[121]⟩ : ByteArray) ++ (⟨(decD a).toArray⟩ : ByteArray) ++ (⟨#[47]⟩ : ByteArray) ++ (⟨(decD b).toArray⟩ : ByteArray))) (by simp [results, Tryz.f35, go_sem]) rfl ⟨congrArg (fun x => Ending.returned (.string x)) (ByteArray.ext (by rw [show wordT ⟨7, false, (a : Int), (b : Int)⟩ = [107] ++ [121] ++ decD a ++ (47 :: decD b) from by rfl] <;> simp)), hb1⟩
  · have hb0 : Ext w (w.alloc (.cells #[.int .u8 7, .bool true, .int .i64 (a : Int), .int .i64 (b : Int)] 42)) := (Ext.refl _).alloc _
    go_enter Tryz.func35, Tryz.ntmps35
    have hb : Ext (w.alloc (.cells #[.int .u8 7, .bool true, .int .i64 (a : Int), .int .i64 (b : Int)] 42)) (w.alloc (.cells #[.int .u8 7, .bool true, .int .i64 (a : Int), .int .i64 (b : Int)] 42)) := Ext.refl _
    obtain ⟨hc, hf, hz⟩ := hb.facts
    go_wp2_with fail
    go_region_held3 (fun w' => w'.cell? ⟨w.heap.size, 2, none⟩ = some (.int .i64 (a : Int)) ∧ w'.cell? ⟨w.heap.size, 3, none⟩ = some (.int .i64 (b : Int))) (go_keep) (first | (go_at_call 36; (first | ((with_reducible refine (HA.out _).mono ?_); rintro e w1 ⟨rfl, hq⟩; replace hb := hb.trans (Ext.trans (by repeat (first | exact Ext.refl _ | refine Ext.drew ?_ | refine Ext.drewN ?_ _ | refine Ext.alloc ?_ _)) hq); clear hq; obtain ⟨hc, hf, hz⟩ := hb.facts) | ((with_reducible refine (HB.out _).mono ?_); rintro e w1 ⟨rfl, hq⟩; replace hb := hb.trans (Ext.trans (by repeat (first | exact Ext.refl _ | refine Ext.drew ?_ | refine Ext.drewN ?_ _ | refine Ext.alloc ?_ _)) hq); clear hq; obtain ⟨hc, hf, hz⟩ := hb.facts))))
    all_goals go_wp2
    all_goals have hb1 := hb0.trans hb
    all_goals exact bodyPost_ret (v := .string ((⟨#[112]⟩ : ByteArray) ++ (⟨#[121]⟩ : ByteArray) ++ (⟨(decD a).toArray⟩ : ByteArray) ++ (⟨#[47]⟩ : ByteArray) ++ (⟨(decD b).toArray⟩ : ByteArray))) (by simp [results, Tryz.f35, go_sem]) rfl ⟨congrArg (fun x => Ending.returned (.string x)) (ByteArray.ext (by rw [show wordT ⟨7, true, (a : Int), (b : Int)⟩ = [112] ++ [121] ++ decD a ++ (47 :: decD b) from by rfl] <;> simp)), hb1⟩
set_option maxHeartbeats 4000000 in
theorem one_8 (p : Bool) (a b : Nat) (w : World) :
    Calls Tryz.prog 35 #[.agg #[.int .u8 8, .bool p, .int .i64 (a : Int), .int .i64 (b : Int)]] w fun e w' => e = .returned (.string ⟨(wordT ⟨8, p, a, b⟩).toArray⟩) ∧ Ext w w' := by
  cases p
  · have hb0 : Ext w (w.alloc (.cells #[.int .u8 8, .bool false, .int .i64 (a : Int), .int .i64 (b : Int)] 42)) := (Ext.refl _).alloc _
    go_enter Tryz.func35, Tryz.ntmps35
    go_wp2_with fail
    have hb1 := hb0
    exact bodyPost_ret (v := .string ((⟨#[107]⟩ : ByteArray) ++ (⟨#[115]⟩ : ByteArray))) (by simp [results, Tryz.f35, go_sem]) rfl ⟨congrArg (fun x => Ending.returned (.string x)) (ByteArray.ext (by rw [show wordT ⟨8, false, (a : Int), (b : Int)⟩ = [107] ++ [115] ++ [] ++ [] from by rfl] <;> simp)), hb1⟩
  · have hb0 : Ext w (w.alloc (.cells #[.int .u8 8, .bool true, .int .i64 (a : Int), .int .i64 (b : Int)] 42)) := (Ext.refl _).alloc _
    go_enter Tryz.func35, Tryz.ntmps35
    go_wp2_with fail
    have hb1 := hb0
    exact bodyPost_ret (v := .string ((⟨#[112]⟩ : ByteArray) ++ (⟨#[115]⟩ : ByteArray))) (by simp [results, Tryz.f35, go_sem]) rfl ⟨congrArg (fun x => Ending.returned (.string x)) (ByteArray.ext (by rw [show wordT ⟨8, true, (a : Int), (b : Int)⟩ = [112] ++ [115] ++ [] ++ [] from by rfl] <;> simp)), hb1⟩
set_option maxHeartbeats 4000000 in
theorem one_9 (p : Bool) (a b : Nat) (h1 : a ≤ 200) (w : World) :
    Calls Tryz.prog 35 #[.agg #[.int .u8 9, .bool p, .int .i64 (a : Int), .int .i64 (b : Int)]] w fun e w' => e = .returned (.string ⟨(wordT ⟨9, p, a, b⟩).toArray⟩) ∧ Ext w w' := by
  have d1 := dec_len a
  have HA := Lib.hid (fun w' => decimal_any a (by omega) w')
  cases p
  · have hb0 : Ext w (w.alloc (.cells #[.int .u8 9, .bool false, .int .i64 (a : Int), .int .i64 (b : Int)] 42)) := (Ext.refl _).alloc _
    go_enter Tryz.func35, Tryz.ntmps35
    go_wp2_with (go_at_call 36; ((with_reducible refine (HA.out _).mono ?_); rintro e w1 ⟨rfl, hq1⟩; have hb1 := hb0.trans hq1))
    exact bodyPost_ret (v := .string ((⟨#[111, 110]⟩ : ByteArray) ++ (⟨(decD a).toArray⟩ : ByteArray))) (by simp [results, Tryz.f35, go_sem]) rfl ⟨congrArg (fun x => Ending.returned (.string x)) (ByteArray.ext (by rw [show wordT ⟨9, false, (a : Int), (b : Int)⟩ = [111, 110] ++ decD a from by rfl] <;> simp)), hb1⟩
  · have hb0 : Ext w (w.alloc (.cells #[.int .u8 9, .bool true, .int .i64 (a : Int), .int .i64 (b : Int)] 42)) := (Ext.refl _).alloc _
    go_enter Tryz.func35, Tryz.ntmps35
    go_wp2_with (go_at_call 36; ((with_reducible refine (HA.out _).mono ?_); rintro e w1 ⟨rfl, hq1⟩; have hb1 := hb0.trans hq1))
    exact bodyPost_ret (v := .string ((⟨#[111, 110]⟩ : ByteArray) ++ (⟨(decD a).toArray⟩ : ByteArray))) (by simp [results, Tryz.f35, go_sem]) rfl ⟨congrArg (fun x => Ending.returned (.string x)) (ByteArray.ext (by rw [show wordT ⟨9, true, (a : Int), (b : Int)⟩ = [111, 110] ++ decD a from by rfl] <;> simp)), hb1⟩
set_option maxHeartbeats 4000000 in
theorem one_10 (p : Bool) (a b : Nat) (h1 : a ≤ 200) (w : World) :
    Calls Tryz.prog 35 #[.agg #[.int .u8 10, .bool p, .int .i64 (a : Int), .int .i64 (b : Int)]] w fun e w' => e = .returned (.string ⟨(wordT ⟨10, p, a, b⟩).toArray⟩) ∧ Ext w w' := by
  have d1 := dec_len a
  have HA := Lib.hid (fun w' => decimal_any a (by omega) w')
  cases p
  · have hb0 : Ext w (w.alloc (.cells #[.int .u8 10, .bool false, .int .i64 (a : Int), .int .i64 (b : Int)] 42)) := (Ext.refl _).alloc _
    go_enter Tryz.func35, Tryz.ntmps35
    go_wp2_with (go_at_call 36; ((with_reducible refine (HA.out _).mono ?_); rintro e w1 ⟨rfl, hq1⟩; have hb1 := hb0.trans hq1))
    exact bodyPost_ret (v := .string ((⟨#[107]⟩ : ByteArray) ++ (⟨#[111]⟩ : ByteArray) ++ (⟨(decD a).toArray⟩ : ByteArray))) (by simp [results, Tryz.f35, go_sem]) rfl ⟨congrArg (fun x => Ending.returned (.string x)) (ByteArray.ext (by rw [show wordT ⟨10, false, (a : Int), (b : Int)⟩ = [107] ++ [111] ++ decD a ++ [] from by rfl] <;> simp)), hb1⟩
  · have hb0 : Ext w (w.alloc (.cells #[.int .u8 10, .bool true, .int .i64 (a : Int), .int .i64 (b : Int)] 42)) := (Ext.refl _).alloc _
    go_enter Tryz.func35, Tryz.ntmps35
    go_wp2_with (go_at_call 36; ((with_reducible refine (HA.out _).mono ?_); rintro e w1 ⟨rfl, hq1⟩; have hb1 := hb0.trans hq1))
    exact bodyPost_ret (v := .string ((⟨#[112]⟩ : ByteArray) ++ (⟨#[111]⟩ : ByteArray) ++ (⟨(decD a).toArray⟩ : ByteArray))) (by simp [results, Tryz.f35, go_sem]) rfl ⟨congrArg (fun x => Ending.returned (.string x)) (ByteArray.ext (by rw [show wordT ⟨10, true, (a : Int), (b : Int)⟩ = [112] ++ [111] ++ decD a ++ [] from by rfl] <;> simp)), hb1⟩
theorem one_any (s : St) (h : okSt s = true) (w : World) :
    Calls Tryz.prog 35 #[.agg #[.int .u8 s.k, .bool s.p, .int .i64 s.a, .int .i64 s.b]] w fun e w' => e = .returned (.string ⟨(wordT s).toArray⟩) ∧ Ext w w' := by
  obtain ⟨h0, h1, h2, h3⟩ := ok_ab h
  obtain ⟨k, p, a, b⟩ := s
  have hk := ok_kind h
  simp only at h0 h1 h2 h3 hk ⊢
  clear h
  obtain ⟨a, rfl⟩ : ∃ n : Nat, a = (n : Int) := ⟨a.toNat, by omega⟩
  obtain ⟨b, rfl⟩ : ∃ n : Nat, b = (n : Int) := ⟨b.toNat, by omega⟩
  rcases kind_cases hk with e | e | e | e | e | e | e | e | e | e <;> subst e
  · exact one_1 p a b w
  · exact one_2 p a b w
  · exact one_3 p a b (by omega) w
  · exact one_4 p a b (by omega) w
  · exact one_5 p a b (by omega) w
  · exact one_6 p a b (by omega) (by omega) w
  · exact one_7 p a b (by omega) (by omega) w
  · exact one_8 p a b w
  · exact one_9 p a b (by omega) w
  · exact one_10 p a b (by omega) w
end Go.Proofs.YtpcefmopoceiiaaGreatDoor
