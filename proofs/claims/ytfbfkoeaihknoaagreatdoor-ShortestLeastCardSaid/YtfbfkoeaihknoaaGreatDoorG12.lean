/- The text of a stitch. -/
import Derived.Test.YtfbfkoeaihknoaaGreatDoorG11
import Derived.Test.YtfbfkoeaihknoaaGreatDoorG01
import Derived.Test.YtfbfkoeaihknoaaGreatDoorG09
namespace Go.Proofs.YtfbfkoeaihknoaaGreatDoor
set_option maxRecDepth 100000
open Go.RowKit
theorem form_1 (w : World) : Calls Tryz.prog 58 #[.int .u8 1] w fun e w' => e = .returned (.tuple #[.agg #[.string ⟨#[]⟩, .int .i64 0, .int .i64 0, .int .i64 0, .int .i64 0, .bool true, .int .i64 1, .int .i64 1], .bool true]) ∧ Ext w w' := forms_both 1 (by omega) (by omega) w
theorem form_2 (w : World) : Calls Tryz.prog 58 #[.int .u8 2] w fun e w' => e = .returned (.tuple #[.agg #[.string ⟨#[]⟩, .int .i64 0, .int .i64 0, .int .i64 0, .int .i64 0, .bool false, .int .i64 0, .int .i64 1], .bool true]) ∧ Ext w w' := forms_both 2 (by omega) (by omega) w
theorem form_3 (w : World) : Calls Tryz.prog 58 #[.int .u8 3] w fun e w' => e = .returned (.tuple #[.agg #[.string ⟨#[102]⟩, .int .i64 2, .int .i64 4, .int .i64 0, .int .i64 0, .bool true, .int .i64 2, .int .i64 1], .bool true]) ∧ Ext w w' := forms_both 3 (by omega) (by omega) w
theorem form_4 (w : World) : Calls Tryz.prog 58 #[.int .u8 4] w fun e w' => e = .returned (.tuple #[.agg #[.string ⟨#[108]⟩, .int .i64 2, .int .i64 4, .int .i64 0, .int .i64 0, .bool true, .int .i64 2, .int .i64 1], .bool true]) ∧ Ext w w' := forms_both 4 (by omega) (by omega) w
theorem form_5 (w : World) : Calls Tryz.prog 58 #[.int .u8 5] w fun e w' => e = .returned (.tuple #[.agg #[.string ⟨#[109]⟩, .int .i64 2, .int .i64 4, .int .i64 0, .int .i64 0, .bool true, .int .i64 1, .int .i64 2], .bool true]) ∧ Ext w w' := forms_both 5 (by omega) (by omega) w
theorem form_6 (w : World) : Calls Tryz.prog 58 #[.int .u8 6] w fun e w' => e = .returned (.tuple #[.agg #[.string ⟨#[120]⟩, .int .i64 1, .int .i64 6, .int .i64 1, .int .i64 6, .bool true, .int .i64 3, .int .i64 3], .bool true]) ∧ Ext w w' := forms_both 6 (by omega) (by omega) w
theorem form_7 (w : World) : Calls Tryz.prog 58 #[.int .u8 7] w fun e w' => e = .returned (.tuple #[.agg #[.string ⟨#[121]⟩, .int .i64 1, .int .i64 6, .int .i64 1, .int .i64 6, .bool true, .int .i64 3, .int .i64 3], .bool true]) ∧ Ext w w' := forms_both 7 (by omega) (by omega) w
theorem form_8 (w : World) : Calls Tryz.prog 58 #[.int .u8 8] w fun e w' => e = .returned (.tuple #[.agg #[.string ⟨#[115]⟩, .int .i64 0, .int .i64 0, .int .i64 0, .int .i64 0, .bool true, .int .i64 1, .int .i64 1], .bool true]) ∧ Ext w w' := forms_both 8 (by omega) (by omega) w
theorem form_9 (w : World) : Calls Tryz.prog 58 #[.int .u8 9] w fun e w' => e = .returned (.tuple #[.agg #[.string ⟨#[]⟩, .int .i64 1, .int .i64 200, .int .i64 0, .int .i64 0, .bool false, .int .i64 0, .int .i64 2], .bool true]) ∧ Ext w w' := forms_both 9 (by omega) (by omega) w
theorem form_10 (w : World) : Calls Tryz.prog 58 #[.int .u8 10] w fun e w' => e = .returned (.tuple #[.agg #[.string ⟨#[111]⟩, .int .i64 1, .int .i64 200, .int .i64 0, .int .i64 0, .bool true, .int .i64 2, .int .i64 0], .bool true]) ∧ Ext w w' := forms_both 10 (by omega) (by omega) w
theorem ok_ab {s : St} (h : okSt s = true) : 0 ≤ s.a ∧ s.a ≤ 200 ∧ 0 ≤ s.b ∧ s.b ≤ 6 := by
  obtain ⟨hk, ha, hb, _⟩ := ok_e h
  have ha := inR_e ha
  have hb := inR_e hb
  rcases kind_cases hk with e | e | e | e | e | e | e | e | e | e <;> rw [e] at ha hb <;> simp [fa0, fa1, fb0, fb1] at ha hb <;> omega
set_option maxHeartbeats 2000000 in
theorem word_1 (p : Bool) (a b : Int) (w : World) :
    Calls Tryz.prog 77 #[.agg #[.int .u8 1, .bool p, .int .i64 a, .int .i64 b]] w fun e w' => e = .returned (.string ⟨(wordT ⟨1, p, a, b⟩).toArray⟩) ∧ Ext w w' := by
  cases p
  · go_enter Tryz.func77, Tryz.ntmps77
    go_wp2_with (first
      | (go_at_call 58; ((with_reducible refine (form_1 _).mono ?_); rintro e w1 ⟨rfl, hq1⟩; obtain ⟨hc1, hf1, hz1⟩ := hq1.facts)))
    exact bodyPost_ret (v := .string ((⟨#[107]⟩ : ByteArray) ++ (⟨#[]⟩ : ByteArray))) (by simp [results, Tryz.f77, go_sem]) rfl ⟨congrArg (fun x => Ending.returned (.string x)) (ByteArray.ext (by rw [show wordT ⟨1, false, a, b⟩ = [107] ++ [] ++ [] ++ [] from by rfl]; simp)), by repeat (first | exact Ext.refl _ | assumption | refine Ext.alloc ?_ _ | refine Ext.drew ?_ | refine Ext.drewN ?_ _ | refine Ext.trans ?_ (by assumption))⟩
  · go_enter Tryz.func77, Tryz.ntmps77
    go_wp2_with (first
      | (go_at_call 58; ((with_reducible refine (form_1 _).mono ?_); rintro e w1 ⟨rfl, hq1⟩; obtain ⟨hc1, hf1, hz1⟩ := hq1.facts)))
    exact bodyPost_ret (v := .string ((⟨#[112]⟩ : ByteArray) ++ (⟨#[]⟩ : ByteArray))) (by simp [results, Tryz.f77, go_sem]) rfl ⟨congrArg (fun x => Ending.returned (.string x)) (ByteArray.ext (by rw [show wordT ⟨1, true, a, b⟩ = [112] ++ [] ++ [] ++ [] from by rfl]; simp)), by repeat (first | exact Ext.refl _ | assumption | refine Ext.alloc ?_ _ | refine Ext.drew ?_ | refine Ext.drewN ?_ _ | refine Ext.trans ?_ (by assumption))⟩
set_option maxHeartbeats 2000000 in
theorem word_2 (p : Bool) (a b : Int) (w : World) :
    Calls Tryz.prog 77 #[.agg #[.int .u8 2, .bool p, .int .i64 a, .int .i64 b]] w fun e w' => e = .returned (.string ⟨(wordT ⟨2, p, a, b⟩).toArray⟩) ∧ Ext w w' := by
  go_enter Tryz.func77, Tryz.ntmps77
  go_wp2
  go_ret
  exact ⟨rfl, by repeat (first | exact Ext.refl _ | assumption | refine Ext.alloc ?_ _ | refine Ext.drew ?_ | refine Ext.drewN ?_ _ | refine Ext.trans ?_ (by assumption))⟩
set_option maxHeartbeats 2000000 in
theorem word_3 (p : Bool) (a b : Int) (h0 : 0 ≤ a) (h1 : a ≤ 200) (w : World) (hg : Glob w) :
    Calls Tryz.prog 77 #[.agg #[.int .u8 3, .bool p, .int .i64 a, .int .i64 b]] w fun e w' => e = .returned (.string ⟨(wordT ⟨3, p, a, b⟩).toArray⟩) ∧ Ext w w' := by
  have HG := Lib.hid hg
  clear hg
  have d1 := dec_len a.toNat
  cases p
  · go_enter Tryz.func77, Tryz.ntmps77
    go_wp2_with (first
      | (go_at_call 58; ((with_reducible refine (form_3 _).mono ?_); rintro e w1 ⟨rfl, hq1⟩; obtain ⟨hc1, hf1, hz1⟩ := hq1.facts))
      | (go_at_call 46; (first | ((with_reducible refine (itoa_any a h0 (by omega) _ (HG.out.ext (by repeat (first | exact Ext.refl _ | assumption | refine Ext.alloc ?_ _ | refine Ext.drew ?_ | refine Ext.drewN ?_ _ | refine Ext.trans ?_ (by assumption))))).mono ?_); rintro e w2 ⟨rfl, hq2⟩; obtain ⟨hc2, hf2, hz2⟩ := hq2.facts))))
    exact bodyPost_ret (v := .string ((⟨#[107]⟩ : ByteArray) ++ (⟨#[102]⟩ : ByteArray) ++ (⟨(decD a.toNat).toArray⟩ : ByteArray))) (by simp [results, Tryz.f77, go_sem]) rfl ⟨congrArg (fun x => Ending.returned (.string x)) (ByteArray.ext (by rw [show wordT ⟨3, false, a, b⟩ = [107] ++ [102] ++ decD a.toNat ++ [] from by rfl]; simp)), by repeat (first | exact Ext.refl _ | assumption | refine Ext.alloc ?_ _ | refine Ext.drew ?_ | refine Ext.drewN ?_ _ | refine Ext.trans ?_ (by assumption))⟩
  · go_enter Tryz.func77, Tryz.ntmps77
    go_wp2_with (first
      | (go_at_call 58; ((with_reducible refine (form_3 _).mono ?_); rintro e w1 ⟨rfl, hq1⟩; obtain ⟨hc1, hf1, hz1⟩ := hq1.facts))
      | (go_at_call 46; (first | ((with_reducible refine (itoa_any a h0 (by omega) _ (HG.out.ext (by repeat (first | exact Ext.refl _ | assumption | refine Ext.alloc ?_ _ | refine Ext.drew ?_ | refine Ext.drewN ?_ _ | refine Ext.trans ?_ (by assumption))))).mono ?_); rintro e w2 ⟨rfl, hq2⟩; obtain ⟨hc2, hf2, hz2⟩ := hq2.facts))))
    exact bodyPost_ret (v := .string ((⟨#[112]⟩ : ByteArray) ++ (⟨#[102]⟩ : ByteArray) ++ (⟨(decD a.toNat).toArray⟩ : ByteArray))) (by simp [results, Tryz.f77, go_sem]) rfl ⟨congrArg (fun x => Ending.returned (.string x)) (ByteArray.ext (by rw [show wordT ⟨3, true, a, b⟩ = [112] ++ [102] ++ decD a.toNat ++ [] from by rfl]; simp)), by repeat (first | exact Ext.refl _ | assumption | refine Ext.alloc ?_ _ | refine Ext.drew ?_ | refine Ext.drewN ?_ _ | refine Ext.trans ?_ (by assumption))⟩
set_option maxHeartbeats 2000000 in
theorem word_4 (p : Bool) (a b : Int) (h0 : 0 ≤ a) (h1 : a ≤ 200) (w : World) (hg : Glob w) :
    Calls Tryz.prog 77 #[.agg #[.int .u8 4, .bool p, .int .i64 a, .int .i64 b]] w fun e w' => e = .returned (.string ⟨(wordT ⟨4, p, a, b⟩).toArray⟩) ∧ Ext w w' := by
  have HG := Lib.hid hg
  clear hg
  have d1 := dec_len a.toNat
  cases p
  · go_enter Tryz.func77, Tryz.ntmps77
    go_wp2_with (first
      | (go_at_call 58; ((with_reducible refine (form_4 _).mono ?_); rintro e w1 ⟨rfl, hq1⟩; obtain ⟨hc1, hf1, hz1⟩ := hq1.facts))
      | (go_at_call 46; (first | ((with_reducible refine (itoa_any a h0 (by omega) _ (HG.out.ext (by repeat (first | exact Ext.refl _ | assumption | refine Ext.alloc ?_ _ | refine Ext.drew ?_ | refine Ext.drewN ?_ _ | refine Ext.trans ?_ (by assumption))))).mono ?_); rintro e w2 ⟨rfl, hq2⟩; obtain ⟨hc2, hf2, hz2⟩ := hq2.facts))))
    exact bodyPost_ret (v := .string ((⟨#[107]⟩ : ByteArray) ++ (⟨#[108]⟩ : ByteArray) ++ (⟨(decD a.toNat).toArray⟩ : ByteArray))) (by simp [results, Tryz.f77, go_sem]) rfl ⟨congrArg (fun x => Ending.returned (.string x)) (ByteArray.ext (by rw [show wordT ⟨4, false, a, b⟩ = [107] ++ [108] ++ decD a.toNat ++ [] from by rfl]; simp)), by repeat (first | exact Ext.refl _ | assumption | refine Ext.alloc ?_ _ | refine Ext.drew ?_ | refine Ext.drewN ?_ _ | refine Ext.trans ?_ (by assumption))⟩
  · go_enter Tryz.func77, Tryz.ntmps77
    go_wp2_with (first
      | (go_at_call 58; ((with_reducible refine (form_4 _).mono ?_); rintro e w1 ⟨rfl, hq1⟩; obtain ⟨hc1, hf1, hz1⟩ := hq1.facts))
      | (go_at_call 46; (first | ((with_reducible refine (itoa_any a h0 (by omega) _ (HG.out.ext (by repeat (first | exact Ext.refl _ | assumption | refine Ext.alloc ?_ _ | refine Ext.drew ?_ | refine Ext.drewN ?_ _ | refine Ext.trans ?_ (by assumption))))).mono ?_); rintro e w2 ⟨rfl, hq2⟩; obtain ⟨hc2, hf2, hz2⟩ := hq2.facts))))
    exact bodyPost_ret (v := .string ((⟨#[112]⟩ : ByteArray) ++ (⟨#[108]⟩ : ByteArray) ++ (⟨(decD a.toNat).toArray⟩ : ByteArray))) (by simp [results, Tryz.f77, go_sem]) rfl ⟨congrArg (fun x => Ending.returned (.string x)) (ByteArray.ext (by rw [show wordT ⟨4, true, a, b⟩ = [112] ++ [108] ++ decD a.toNat ++ [] from by rfl]; simp)), by repeat (first | exact Ext.refl _ | assumption | refine Ext.alloc ?_ _ | refine Ext.drew ?_ | refine Ext.drewN ?_ _ | refine Ext.trans ?_ (by assumption))⟩
set_option maxHeartbeats 2000000 in
theorem word_5 (p : Bool) (a b : Int) (h0 : 0 ≤ a) (h1 : a ≤ 200) (w : World) (hg : Glob w) :
    Calls Tryz.prog 77 #[.agg #[.int .u8 5, .bool p, .int .i64 a, .int .i64 b]] w fun e w' => e = .returned (.string ⟨(wordT ⟨5, p, a, b⟩).toArray⟩) ∧ Ext w w' := by
  have HG := Lib.hid hg
  clear hg
  have d1 := dec_len a.toNat
  cases p
  · go_enter Tryz.func77, Tryz.ntmps77
    go_wp2_with (first
      | (go_at_call 58; ((with_reducible refine (form_5 _).mono ?_); rintro e w1 ⟨rfl, hq1⟩; obtain ⟨hc1, hf1, hz1⟩ := hq1.facts))
      | (go_at_call 46; (first | ((with_reducible refine (itoa_any a h0 (by omega) _ (HG.out.ext (by repeat (first | exact Ext.refl _ | assumption | refine Ext.alloc ?_ _ | refine Ext.drew ?_ | refine Ext.drewN ?_ _ | refine Ext.trans ?_ (by assumption))))).mono ?_); rintro e w2 ⟨rfl, hq2⟩; obtain ⟨hc2, hf2, hz2⟩ := hq2.facts))))
    exact bodyPost_ret (v := .string ((⟨#[107]⟩ : ByteArray) ++ (⟨#[109]⟩ : ByteArray) ++ (⟨(decD a.toNat).toArray⟩ : ByteArray))) (by simp [results, Tryz.f77, go_sem]) rfl ⟨congrArg (fun x => Ending.returned (.string x)) (ByteArray.ext (by rw [show wordT ⟨5, false, a, b⟩ = [107] ++ [109] ++ decD a.toNat ++ [] from by rfl]; simp)), by repeat (first | exact Ext.refl _ | assumption | refine Ext.alloc ?_ _ | refine Ext.drew ?_ | refine Ext.drewN ?_ _ | refine Ext.trans ?_ (by assumption))⟩
  · go_enter Tryz.func77, Tryz.ntmps77
    go_wp2_with (first
      | (go_at_call 58; ((with_reducible refine (form_5 _).mono ?_); rintro e w1 ⟨rfl, hq1⟩; obtain ⟨hc1, hf1, hz1⟩ := hq1.facts))
      | (go_at_call 46; (first | ((with_reducible refine (itoa_any a h0 (by omega) _ (HG.out.ext (by repeat (first | exact Ext.refl _ | assumption | refine Ext.alloc ?_ _ | refine Ext.drew ?_ | refine Ext.drewN ?_ _ | refine Ext.trans ?_ (by assumption))))).mono ?_); rintro e w2 ⟨rfl, hq2⟩; obtain ⟨hc2, hf2, hz2⟩ := hq2.facts))))
    exact bodyPost_ret (v := .string ((⟨#[112]⟩ : ByteArray) ++ (⟨#[109]⟩ : ByteArray) ++ (⟨(decD a.toNat).toArray⟩ : ByteArray))) (by simp [results, Tryz.f77, go_sem]) rfl ⟨congrArg (fun x => Ending.returned (.string x)) (ByteArray.ext (by rw [show wordT ⟨5, true, a, b⟩ = [112] ++ [109] ++ decD a.toNat ++ [] from by rfl]; simp)), by repeat (first | exact Ext.refl _ | assumption | refine Ext.alloc ?_ _ | refine Ext.drew ?_ | refine Ext.drewN ?_ _ | refine Ext.trans ?_ (by assumption))⟩
set_option maxHeartbeats 2000000 in
theorem word_6 (p : Bool) (a b : Int) (h0 : 0 ≤ a) (h1 : a ≤ 200) (h2 : 0 ≤ b) (h3 : b ≤ 6) (w : World) (hg : Glob w) :
    Calls Tryz.prog 77 #[.agg #[.int .u8 6, .bool p, .int .i64 a, .int .i64 b]] w fun e w' => e = .returned (.string ⟨(wordT ⟨6, p, a, b⟩).toArray⟩) ∧ Ext w w' := by
  have HG := Lib.hid hg
  clear hg
  have d1 := dec_len a.toNat
  have d2 := dec_len b.toNat
  cases p
  · go_enter Tryz.func77, Tryz.ntmps77
    go_wp2_with (first
      | (go_at_call 58; ((with_reducible refine (form_6 _).mono ?_); rintro e w1 ⟨rfl, hq1⟩; obtain ⟨hc1, hf1, hz1⟩ := hq1.facts))
      | (go_at_call 46; (first | ((with_reducible refine (itoa_any a h0 (by omega) _ (HG.out.ext (by repeat (first | exact Ext.refl _ | assumption | refine Ext.alloc ?_ _ | refine Ext.drew ?_ | refine Ext.drewN ?_ _ | refine Ext.trans ?_ (by assumption))))).mono ?_); rintro e w2 ⟨rfl, hq2⟩; obtain ⟨hc2, hf2, hz2⟩ := hq2.facts; have hqb := Ext.trans hq1 (Ext.trans ((Ext.refl w1).alloc (.cells #[.string ⟨#[120]⟩, .int .i64 1, .int .i64 6, .int .i64 1, .int .i64 6, .bool true, .int .i64 3, .int .i64 3] 102)) hq2); obtain ⟨hcb, hfb, hzb⟩ := hqb.facts) | ((with_reducible refine (itoa_any b h2 (by omega) _ (HG.out.ext (by repeat (first | exact Ext.refl _ | assumption | refine Ext.alloc ?_ _ | refine Ext.drew ?_ | refine Ext.drewN ?_ _ | refine Ext.trans ?_ (by assumption))))).mono ?_); rintro e w3 ⟨rfl, hq3⟩))))
    exact bodyPost_ret (v := .string ((⟨#[107]⟩ : ByteArray) ++ (⟨#[120]⟩ : ByteArray) ++ (⟨(decD a.toNat).toArray⟩ : ByteArray) ++ ((⟨#[47]⟩ : ByteArray) ++ (⟨(decD b.toNat).toArray⟩ : ByteArray)))) (by simp [results, Tryz.f77, go_sem]) rfl ⟨congrArg (fun x => Ending.returned (.string x)) (ByteArray.ext (by rw [show wordT ⟨6, false, a, b⟩ = [107] ++ [120] ++ decD a.toNat ++ (47 :: decD b.toNat) from by rfl]; simp)), by repeat (first | exact Ext.refl _ | assumption | refine Ext.alloc ?_ _ | refine Ext.drew ?_ | refine Ext.drewN ?_ _ | refine Ext.trans ?_ (by assumption))⟩
  · go_enter Tryz.func77, Tryz.ntmps77
    go_wp2_with (first
      | (go_at_call 58; ((with_reducible refine (form_6 _).mono ?_); rintro e w1 ⟨rfl, hq1⟩; obtain ⟨hc1, hf1, hz1⟩ := hq1.facts))
      | (go_at_call 46; (first | ((with_reducible refine (itoa_any a h0 (by omega) _ (HG.out.ext (by repeat (first | exact Ext.refl _ | assumption | refine Ext.alloc ?_ _ | refine Ext.drew ?_ | refine Ext.drewN ?_ _ | refine Ext.trans ?_ (by assumption))))).mono ?_); rintro e w2 ⟨rfl, hq2⟩; obtain ⟨hc2, hf2, hz2⟩ := hq2.facts; have hqb := Ext.trans hq1 (Ext.trans ((Ext.refl w1).alloc (.cells #[.string ⟨#[120]⟩, .int .i64 1, .int .i64 6, .int .i64 1, .int .i64 6, .bool true, .int .i64 3, .int .i64 3] 102)) hq2); obtain ⟨hcb, hfb, hzb⟩ := hqb.facts) | ((with_reducible refine (itoa_any b h2 (by omega) _ (HG.out.ext (by repeat (first | exact Ext.refl _ | assumption | refine Ext.alloc ?_ _ | refine Ext.drew ?_ | refine Ext.drewN ?_ _ | refine Ext.trans ?_ (by assumption))))).mono ?_); rintro e w3 ⟨rfl, hq3⟩))))
    exact bodyPost_ret (v := .string ((⟨#[112]⟩ : ByteArray) ++ (⟨#[120]⟩ : ByteArray) ++ (⟨(decD a.toNat).toArray⟩ : ByteArray) ++ ((⟨#[47]⟩ : ByteArray) ++ (⟨(decD b.toNat).toArray⟩ : ByteArray)))) (by simp [results, Tryz.f77, go_sem]) rfl ⟨congrArg (fun x => Ending.returned (.string x)) (ByteArray.ext (by rw [show wordT ⟨6, true, a, b⟩ = [112] ++ [120] ++ decD a.toNat ++ (47 :: decD b.toNat) from by rfl]; simp)), by repeat (first | exact Ext.refl _ | assumption | refine Ext.alloc ?_ _ | refine Ext.drew ?_ | refine Ext.drewN ?_ _ | refine Ext.trans ?_ (by assumption))⟩
set_option maxHeartbeats 2000000 in
theorem word_7 (p : Bool) (a b : Int) (h0 : 0 ≤ a) (h1 : a ≤ 200) (h2 : 0 ≤ b) (h3 : b ≤ 6) (w : World) (hg : Glob w) :
    Calls Tryz.prog 77 #[.agg #[.int .u8 7, .bool p, .int .i64 a, .int .i64 b]] w fun e w' => e = .returned (.string ⟨(wordT ⟨7, p, a, b⟩).toArray⟩) ∧ Ext w w' := by
  have HG := Lib.hid hg
  clear hg
  have d1 := dec_len a.toNat
  have d2 := dec_len b.toNat
  cases p
  · go_enter Tryz.func77, Tryz.ntmps77
    go_wp2_with (first
      | (go_at_call 58; ((with_reducible refine (form_7 _).mono ?_); rintro e w1 ⟨rfl, hq1⟩; obtain ⟨hc1, hf1, hz1⟩ := hq1.facts))
      | (go_at_call 46; (first | ((with_reducible refine (itoa_any a h0 (by omega) _ (HG.out.ext (by repeat (first | exact Ext.refl _ | assumption | refine Ext.alloc ?_ _ | refine Ext.drew ?_ | refine Ext.drewN ?_ _ | refine Ext.trans ?_ (by assumption))))).mono ?_); rintro e w2 ⟨rfl, hq2⟩; obtain ⟨hc2, hf2, hz2⟩ := hq2.facts; have hqb := Ext.trans hq1 (Ext.trans ((Ext.refl w1).alloc (.cells #[.string ⟨#[121]⟩, .int .i64 1, .int .i64 6, .int .i64 1, .int .i64 6, .bool true, .int .i64 3, .int .i64 3] 102)) hq2); obtain ⟨hcb, hfb, hzb⟩ := hqb.facts) | ((with_reducible refine (itoa_any b h2 (by omega) _ (HG.out.ext (by repeat (first | exact Ext.refl _ | assumption | refine Ext.alloc ?_ _ | refine Ext.drew ?_ | refine Ext.drewN ?_ _ | refine Ext.trans ?_ (by assumption))))).mono ?_); rintro e w3 ⟨rfl, hq3⟩))))
    exact bodyPost_ret (v := .string ((⟨#[107]⟩ : ByteArray) ++ (⟨#[121]⟩ : ByteArray) ++ (⟨(decD a.toNat).toArray⟩ : ByteArray) ++ ((⟨#[47]⟩ : ByteArray) ++ (⟨(decD b.toNat).toArray⟩ : ByteArray)))) (by simp [results, Tryz.f77, go_sem]) rfl ⟨congrArg (fun x => Ending.returned (.string x)) (ByteArray.ext (by rw [show wordT ⟨7, false, a, b⟩ = [107] ++ [121] ++ decD a.toNat ++ (47 :: decD b.toNat) from by rfl]; simp)), by repeat (first | exact Ext.refl _ | assumption | refine Ext.alloc ?_ _ | refine Ext.drew ?_ | refine Ext.drewN ?_ _ | refine Ext.trans ?_ (by assumption))⟩
  · go_enter Tryz.func77, Tryz.ntmps77
    go_wp2_with (first
      | (go_at_call 58; ((with_reducible refine (form_7 _).mono ?_); rintro e w1 ⟨rfl, hq1⟩; obtain ⟨hc1, hf1, hz1⟩ := hq1.facts))
      | (go_at_call 46; (first | ((with_reducible refine (itoa_any a h0 (by omega) _ (HG.out.ext (by repeat (first | exact Ext.refl _ | assumption | refine Ext.alloc ?_ _ | refine Ext.drew ?_ | refine Ext.drewN ?_ _ | refine Ext.trans ?_ (by assumption))))).mono ?_); rintro e w2 ⟨rfl, hq2⟩; obtain ⟨hc2, hf2, hz2⟩ := hq2.facts; have hqb := Ext.trans hq1 (Ext.trans ((Ext.refl w1).alloc (.cells #[.string ⟨#[121]⟩, .int .i64 1, .int .i64 6, .int .i64 1, .int .i64 6, .bool true, .int .i64 3, .int .i64 3] 102)) hq2); obtain ⟨hcb, hfb, hzb⟩ := hqb.facts) | ((with_reducible refine (itoa_any b h2 (by omega) _ (HG.out.ext (by repeat (first | exact Ext.refl _ | assumption | refine Ext.alloc ?_ _ | refine Ext.drew ?_ | refine Ext.drewN ?_ _ | refine Ext.trans ?_ (by assumption))))).mono ?_); rintro e w3 ⟨rfl, hq3⟩))))
    exact bodyPost_ret (v := .string ((⟨#[112]⟩ : ByteArray) ++ (⟨#[121]⟩ : ByteArray) ++ (⟨(decD a.toNat).toArray⟩ : ByteArray) ++ ((⟨#[47]⟩ : ByteArray) ++ (⟨(decD b.toNat).toArray⟩ : ByteArray)))) (by simp [results, Tryz.f77, go_sem]) rfl ⟨congrArg (fun x => Ending.returned (.string x)) (ByteArray.ext (by rw [show wordT ⟨7, true, a, b⟩ = [112] ++ [121] ++ decD a.toNat ++ (47 :: decD b.toNat) from by rfl]; simp)), by repeat (first | exact Ext.refl _ | assumption | refine Ext.alloc ?_ _ | refine Ext.drew ?_ | refine Ext.drewN ?_ _ | refine Ext.trans ?_ (by assumption))⟩
set_option maxHeartbeats 2000000 in
theorem word_8 (p : Bool) (a b : Int) (w : World) :
    Calls Tryz.prog 77 #[.agg #[.int .u8 8, .bool p, .int .i64 a, .int .i64 b]] w fun e w' => e = .returned (.string ⟨(wordT ⟨8, p, a, b⟩).toArray⟩) ∧ Ext w w' := by
  cases p
  · go_enter Tryz.func77, Tryz.ntmps77
    go_wp2_with (first
      | (go_at_call 58; ((with_reducible refine (form_8 _).mono ?_); rintro e w1 ⟨rfl, hq1⟩; obtain ⟨hc1, hf1, hz1⟩ := hq1.facts)))
    exact bodyPost_ret (v := .string ((⟨#[107]⟩ : ByteArray) ++ (⟨#[115]⟩ : ByteArray))) (by simp [results, Tryz.f77, go_sem]) rfl ⟨congrArg (fun x => Ending.returned (.string x)) (ByteArray.ext (by rw [show wordT ⟨8, false, a, b⟩ = [107] ++ [115] ++ [] ++ [] from by rfl]; simp)), by repeat (first | exact Ext.refl _ | assumption | refine Ext.alloc ?_ _ | refine Ext.drew ?_ | refine Ext.drewN ?_ _ | refine Ext.trans ?_ (by assumption))⟩
  · go_enter Tryz.func77, Tryz.ntmps77
    go_wp2_with (first
      | (go_at_call 58; ((with_reducible refine (form_8 _).mono ?_); rintro e w1 ⟨rfl, hq1⟩; obtain ⟨hc1, hf1, hz1⟩ := hq1.facts)))
    exact bodyPost_ret (v := .string ((⟨#[112]⟩ : ByteArray) ++ (⟨#[115]⟩ : ByteArray))) (by simp [results, Tryz.f77, go_sem]) rfl ⟨congrArg (fun x => Ending.returned (.string x)) (ByteArray.ext (by rw [show wordT ⟨8, true, a, b⟩ = [112] ++ [115] ++ [] ++ [] from by rfl]; simp)), by repeat (first | exact Ext.refl _ | assumption | refine Ext.alloc ?_ _ | refine Ext.drew ?_ | refine Ext.drewN ?_ _ | refine Ext.trans ?_ (by assumption))⟩
set_option maxHeartbeats 2000000 in
theorem word_9 (p : Bool) (a b : Int) (h0 : 0 ≤ a) (h1 : a ≤ 200) (w : World) (hg : Glob w) :
    Calls Tryz.prog 77 #[.agg #[.int .u8 9, .bool p, .int .i64 a, .int .i64 b]] w fun e w' => e = .returned (.string ⟨(wordT ⟨9, p, a, b⟩).toArray⟩) ∧ Ext w w' := by
  have HG := Lib.hid hg
  clear hg
  have d1 := dec_len a.toNat
  go_enter Tryz.func77, Tryz.ntmps77
  go_wp2_with (first
      | (go_at_call 46; (first | ((with_reducible refine (itoa_any a h0 (by omega) _ (HG.out.ext (by repeat (first | exact Ext.refl _ | assumption | refine Ext.alloc ?_ _ | refine Ext.drew ?_ | refine Ext.drewN ?_ _ | refine Ext.trans ?_ (by assumption))))).mono ?_); rintro e w2 ⟨rfl, hq2⟩; obtain ⟨hc2, hf2, hz2⟩ := hq2.facts))))
  go_ret
  exact ⟨congrArg (fun x => Ending.returned (.string x)) (ByteArray.ext (by rw [show wordT ⟨9, p, a, b⟩ = [111, 110] ++ decD a.toNat from rfl]; simp)), by repeat (first | exact Ext.refl _ | assumption | refine Ext.alloc ?_ _ | refine Ext.drew ?_ | refine Ext.drewN ?_ _ | refine Ext.trans ?_ (by assumption))⟩
set_option maxHeartbeats 2000000 in
theorem word_10 (p : Bool) (a b : Int) (h0 : 0 ≤ a) (h1 : a ≤ 200) (w : World) (hg : Glob w) :
    Calls Tryz.prog 77 #[.agg #[.int .u8 10, .bool p, .int .i64 a, .int .i64 b]] w fun e w' => e = .returned (.string ⟨(wordT ⟨10, p, a, b⟩).toArray⟩) ∧ Ext w w' := by
  have HG := Lib.hid hg
  clear hg
  have d1 := dec_len a.toNat
  cases p
  · go_enter Tryz.func77, Tryz.ntmps77
    go_wp2_with (first
      | (go_at_call 58; ((with_reducible refine (form_10 _).mono ?_); rintro e w1 ⟨rfl, hq1⟩; obtain ⟨hc1, hf1, hz1⟩ := hq1.facts))
      | (go_at_call 46; (first | ((with_reducible refine (itoa_any a h0 (by omega) _ (HG.out.ext (by repeat (first | exact Ext.refl _ | assumption | refine Ext.alloc ?_ _ | refine Ext.drew ?_ | refine Ext.drewN ?_ _ | refine Ext.trans ?_ (by assumption))))).mono ?_); rintro e w2 ⟨rfl, hq2⟩; obtain ⟨hc2, hf2, hz2⟩ := hq2.facts))))
    exact bodyPost_ret (v := .string ((⟨#[107]⟩ : ByteArray) ++ (⟨#[111]⟩ : ByteArray) ++ (⟨(decD a.toNat).toArray⟩ : ByteArray))) (by simp [results, Tryz.f77, go_sem]) rfl ⟨congrArg (fun x => Ending.returned (.string x)) (ByteArray.ext (by rw [show wordT ⟨10, false, a, b⟩ = [107] ++ [111] ++ decD a.toNat ++ [] from by rfl]; simp)), by repeat (first | exact Ext.refl _ | assumption | refine Ext.alloc ?_ _ | refine Ext.drew ?_ | refine Ext.drewN ?_ _ | refine Ext.trans ?_ (by assumption))⟩
  · go_enter Tryz.func77, Tryz.ntmps77
    go_wp2_with (first
      | (go_at_call 58; ((with_reducible refine (form_10 _).mono ?_); rintro e w1 ⟨rfl, hq1⟩; obtain ⟨hc1, hf1, hz1⟩ := hq1.facts))
      | (go_at_call 46; (first | ((with_reducible refine (itoa_any a h0 (by omega) _ (HG.out.ext (by repeat (first | exact Ext.refl _ | assumption | refine Ext.alloc ?_ _ | refine Ext.drew ?_ | refine Ext.drewN ?_ _ | refine Ext.trans ?_ (by assumption))))).mono ?_); rintro e w2 ⟨rfl, hq2⟩; obtain ⟨hc2, hf2, hz2⟩ := hq2.facts))))
    exact bodyPost_ret (v := .string ((⟨#[112]⟩ : ByteArray) ++ (⟨#[111]⟩ : ByteArray) ++ (⟨(decD a.toNat).toArray⟩ : ByteArray))) (by simp [results, Tryz.f77, go_sem]) rfl ⟨congrArg (fun x => Ending.returned (.string x)) (ByteArray.ext (by rw [show wordT ⟨10, true, a, b⟩ = [112] ++ [111] ++ decD a.toNat ++ [] from by rfl]; simp)), by repeat (first | exact Ext.refl _ | assumption | refine Ext.alloc ?_ _ | refine Ext.drew ?_ | refine Ext.drewN ?_ _ | refine Ext.trans ?_ (by assumption))⟩
theorem word_any (s : St) (h : okSt s = true) (w : World) (hg : Glob w) :
    Calls Tryz.prog 77 #[.agg #[.int .u8 s.k, .bool s.p, .int .i64 s.a, .int .i64 s.b]] w fun e w' => e = .returned (.string ⟨(wordT s).toArray⟩) ∧ Ext w w' := by
  obtain ⟨h0, h1, h2, h3⟩ := ok_ab h
  obtain ⟨k, p, a, b⟩ := s
  have hk := ok_kind h
  simp only at h0 h1 h2 h3 hk ⊢
  rcases kind_cases hk with e | e | e | e | e | e | e | e | e | e <;> subst e
  · exact word_1 p a b w
  · exact word_2 p a b w
  · exact word_3 p a b h0 h1 w hg
  · exact word_4 p a b h0 h1 w hg
  · exact word_5 p a b h0 h1 w hg
  · exact word_6 p a b h0 h1 h2 h3 w hg
  · exact word_7 p a b h0 h1 h2 h3 w hg
  · exact word_8 p a b w
  · exact word_9 p a b h0 h1 w hg
  · exact word_10 p a b h0 h1 w hg
end Go.Proofs.YtfbfkoeaihknoaaGreatDoor
