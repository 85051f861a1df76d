/- The contracts of Check, Expand and Size of terms, both. -/
import Derived.Test.YtfbfkoeaihknoaaTmsG
namespace Go.Proofs.Ytfbfkoeaihknoaa
open Go.RowKit Go.ChangeShapes Go.WideShapes Go.Joins
theorem tchk_4a {t : Tms} (h : 200 < t.size ∨ 8 < t.depth) : tchkE t = 4 := by rw [tchkE, if_pos h]
theorem tchk_8 {t : Tms} (h : ¬ (200 < t.size ∨ 8 < t.depth)) (h2 : fineT t = false) : tchkE t = 8 := by rw [tchkE, if_neg h, h2]; rfl
theorem tchk_4b {t : Tms} (h : ¬ (200 < t.size ∨ 8 < t.depth)) (h2 : fineT t = true) (h3 : 200 < lenT t 0) : tchkE t = 4 := by rw [tchkE, if_neg h, if_pos h2, if_pos h3]
theorem tchk_0 {t : Tms} (h : ¬ (200 < t.size ∨ 8 < t.depth)) (h2 : fineT t = true) (h3 : ¬ 200 < lenT t 0) : tchkE t = 0 := by rw [tchkE, if_neg h, if_pos h2, if_neg h3]
theorem tchk_vals (t : Tms) : tchkE t = 0 ∨ tchkE t = 4 ∨ tchkE t = 8 := by
  unfold tchkE; split
  · exact .inr (.inl rfl)
  · split
    · split
      · exact .inr (.inl rfl)
      · exact .inl rfl
    · exact .inr (.inr rfl)
set_option maxHeartbeats 1000000 in
theorem tcheck_any (t : Tms) (ht : t.size ≤ 5000) (A : Option Addr) (n cap : Nat) (w : World) (hv : Tv w A n t) :
    Calls Try.prog 14 #[.slice A n cap] w fun e w' => e = .returned (.int .i64 (tchkE t)) ∧ Ext w w' := by
  have HV := Lib.hid hv
  have hsz : szM t = min (t.size : Int) 201 := rfl
  have HSZ := Lib.hid hsz
  clear hv hsz
  by_cases h1 : 200 < t.size
  · have HE := Lib.hid (tchk_4a (t := t) (.inl h1))
    have hs1 : 200 < szM t := by have := HSZ.out; omega
    have hs2 : szM t ≤ 201 := by have := HSZ.out; omega
    go_enter Try.func14, Try.ntmps14
    go_wp2_with (first | (go_at_call 25; ((with_reducible refine (size_any 5000 (by omega) t ht A n cap _ (HV.out.ext (by repeat (first | exact Ext.refl _ | assumption | refine Ext.alloc ?_ _ | refine Ext.drew ?_ | refine Ext.drewN ?_ _ | refine Ext.trans ?_ (by assumption))))).mono ?_); rintro e w1 ⟨rfl, hq1⟩)))
    go_ret
    exact ⟨by rw [HE.out]; rfl, by repeat (first | exact Ext.refl _ | assumption | refine Ext.alloc ?_ _ | refine Ext.drew ?_ | refine Ext.drewN ?_ _ | refine Ext.trans ?_ (by assumption))⟩
  by_cases h2 : 8 < t.depth
  · have HE := Lib.hid (tchk_4a (t := t) (.inr h2))
    have hs1 : decide (200 < szM t) = false := by have := HSZ.out; simp; omega
    have hd1 : (8 : Int) < (t.depth : Int) := by omega
    go_enter Try.func14, Try.ntmps14
    go_wp2_with (first | (go_at_call 25; ((with_reducible refine (size_any 5000 (by omega) t ht A n cap _ (HV.out.ext (by repeat (first | exact Ext.refl _ | assumption | refine Ext.alloc ?_ _ | refine Ext.drew ?_ | refine Ext.drewN ?_ _ | refine Ext.trans ?_ (by assumption))))).mono ?_); rintro e w1 ⟨rfl, hq1⟩)))
    go_ret
    exact ⟨by rw [HE.out]; rfl, by repeat (first | exact Ext.refl _ | assumption | refine Ext.alloc ?_ _ | refine Ext.drew ?_ | refine Ext.drewN ?_ _ | refine Ext.trans ?_ (by assumption))⟩
  have hs1 : decide (200 < szM t) = false := by have := HSZ.out; simp; omega
  have hd1 : decide ((8 : Int) < (t.depth : Int)) = false := by simp; omega
  have hdn : decide (8 < t.depth) = false := by simp; omega
  cases hf : fineT t
  · have HE := Lib.hid (tchk_8 (t := t) (by omega) hf)
    have HF := Lib.hid hf
    clear hf
    go_enter Try.func14, Try.ntmps14
    go_wp2_with (first | (go_at_call 25; ((with_reducible refine (size_any 5000 (by omega) t ht A n cap _ (HV.out.ext (by repeat (first | exact Ext.refl _ | assumption | refine Ext.alloc ?_ _ | refine Ext.drew ?_ | refine Ext.drewN ?_ _ | refine Ext.trans ?_ (by assumption))))).mono ?_); rintro e w1 ⟨rfl, hq1⟩)) | (go_at_call 27; ((with_reducible refine (fine_any 5000 (by omega) t ht A n cap _ (HV.out.ext (by repeat (first | exact Ext.refl _ | assumption | refine Ext.alloc ?_ _ | refine Ext.drew ?_ | refine Ext.drewN ?_ _ | refine Ext.trans ?_ (by assumption))))).mono ?_); rintro e w2 ⟨rfl, hq2⟩; rw [HF.out])))
    go_ret
    exact ⟨by rw [HE.out]; rfl, by repeat (first | exact Ext.refl _ | assumption | refine Ext.alloc ?_ _ | refine Ext.drew ?_ | refine Ext.drewN ?_ _ | refine Ext.trans ?_ (by assumption))⟩
  · by_cases h3 : 200 < lenT t 0
    · have HE := Lib.hid (tchk_4b (t := t) (by omega) hf h3)
      have HF := Lib.hid hf
      clear hf
      go_enter Try.func14, Try.ntmps14
      go_wp2_with (first | (go_at_call 25; ((with_reducible refine (size_any 5000 (by omega) t ht A n cap _ (HV.out.ext (by repeat (first | exact Ext.refl _ | assumption | refine Ext.alloc ?_ _ | refine Ext.drew ?_ | refine Ext.drewN ?_ _ | refine Ext.trans ?_ (by assumption))))).mono ?_); rintro e w1 ⟨rfl, hq1⟩)) | (go_at_call 27; ((with_reducible refine (fine_any 5000 (by omega) t ht A n cap _ (HV.out.ext (by repeat (first | exact Ext.refl _ | assumption | refine Ext.alloc ?_ _ | refine Ext.drew ?_ | refine Ext.drewN ?_ _ | refine Ext.trans ?_ (by assumption))))).mono ?_); rintro e w2 ⟨rfl, hq2⟩; rw [HF.out])) | (go_at_call 28; ((with_reducible refine (length_any 5000 (by omega) t ht HF.out A n cap _ (HV.out.ext (by repeat (first | exact Ext.refl _ | assumption | refine Ext.alloc ?_ _ | refine Ext.drew ?_ | refine Ext.drewN ?_ _ | refine Ext.trans ?_ (by assumption))))).mono ?_); rintro e w3 ⟨rfl, hq3⟩)))
      go_ret
      exact ⟨by rw [HE.out]; rfl, by repeat (first | exact Ext.refl _ | assumption | refine Ext.alloc ?_ _ | refine Ext.drew ?_ | refine Ext.drewN ?_ _ | refine Ext.trans ?_ (by assumption))⟩
    · have HE := Lib.hid (tchk_0 (t := t) (by omega) hf h3)
      have HF := Lib.hid hf
      have hl : decide (200 < lenT t 0) = false := by simp; omega
      clear hf
      go_enter Try.func14, Try.ntmps14
      go_wp2_with (first | (go_at_call 25; ((with_reducible refine (size_any 5000 (by omega) t ht A n cap _ (HV.out.ext (by repeat (first | exact Ext.refl _ | assumption | refine Ext.alloc ?_ _ | refine Ext.drew ?_ | refine Ext.drewN ?_ _ | refine Ext.trans ?_ (by assumption))))).mono ?_); rintro e w1 ⟨rfl, hq1⟩)) | (go_at_call 27; ((with_reducible refine (fine_any 5000 (by omega) t ht A n cap _ (HV.out.ext (by repeat (first | exact Ext.refl _ | assumption | refine Ext.alloc ?_ _ | refine Ext.drew ?_ | refine Ext.drewN ?_ _ | refine Ext.trans ?_ (by assumption))))).mono ?_); rintro e w2 ⟨rfl, hq2⟩; rw [HF.out])) | (go_at_call 28; ((with_reducible refine (length_any 5000 (by omega) t ht HF.out A n cap _ (HV.out.ext (by repeat (first | exact Ext.refl _ | assumption | refine Ext.alloc ?_ _ | refine Ext.drew ?_ | refine Ext.drewN ?_ _ | refine Ext.trans ?_ (by assumption))))).mono ?_); rintro e w3 ⟨rfl, hq3⟩)))
      go_ret
      exact ⟨by rw [HE.out]; rfl, by repeat (first | exact Ext.refl _ | assumption | refine Ext.alloc ?_ _ | refine Ext.drew ?_ | refine Ext.drewN ?_ _ | refine Ext.trans ?_ (by assumption))⟩
set_option maxHeartbeats 1000000 in
theorem trcheck_any (t : Tms) (ht : t.size ≤ 5000) (A : Option Addr) (n cap : Nat) (w : World) (hv : Tv w A n t) :
    Calls Try.prog 15 #[.slice A n cap] w fun e w' => e = .returned (.int .i64 (tchkE t)) ∧ Ext w w' := by
  have HV := Lib.hid hv
  have hsz : szM t = min (t.size : Int) 201 := rfl
  have HSZ := Lib.hid hsz
  clear hv hsz
  by_cases h1 : 200 < t.size
  · have HE := Lib.hid (tchk_4a (t := t) (.inl h1))
    have hs1 : 200 < szM t := by have := HSZ.out; omega
    have hs2 : szM t ≤ 201 := by have := HSZ.out; omega
    go_enter Try.func15, Try.ntmps15
    go_wp2_with (first | (go_at_call 26; ((with_reducible refine (terms_any 5000 (by omega) t ht A n cap _ (HV.out.ext (by repeat (first | exact Ext.refl _ | assumption | refine Ext.alloc ?_ _ | refine Ext.drew ?_ | refine Ext.drewN ?_ _ | refine Ext.trans ?_ (by assumption))))).mono ?_); rintro e w1 ⟨rfl, hq1⟩)))
    go_ret
    exact ⟨by rw [HE.out]; rfl, by repeat (first | exact Ext.refl _ | assumption | refine Ext.alloc ?_ _ | refine Ext.drew ?_ | refine Ext.drewN ?_ _ | refine Ext.trans ?_ (by assumption))⟩
  by_cases h2 : 8 < t.depth
  · have HE := Lib.hid (tchk_4a (t := t) (.inr h2))
    have hs1 : decide (200 < szM t) = false := by have := HSZ.out; simp; omega
    have hd1 : (8 : Int) < (t.depth : Int) := by omega
    go_enter Try.func15, Try.ntmps15
    go_wp2_with (first | (go_at_call 26; ((with_reducible refine (terms_any 5000 (by omega) t ht A n cap _ (HV.out.ext (by repeat (first | exact Ext.refl _ | assumption | refine Ext.alloc ?_ _ | refine Ext.drew ?_ | refine Ext.drewN ?_ _ | refine Ext.trans ?_ (by assumption))))).mono ?_); rintro e w1 ⟨rfl, hq1⟩)) | (go_at_call 29; ((with_reducible refine (deep_any 5000 (by omega) t ht A n cap _ (HV.out.ext (by repeat (first | exact Ext.refl _ | assumption | refine Ext.alloc ?_ _ | refine Ext.drew ?_ | refine Ext.drewN ?_ _ | refine Ext.trans ?_ (by assumption))))).mono ?_); rintro e w4 ⟨rfl, hq4⟩)))
    go_ret
    exact ⟨by rw [HE.out]; rfl, by repeat (first | exact Ext.refl _ | assumption | refine Ext.alloc ?_ _ | refine Ext.drew ?_ | refine Ext.drewN ?_ _ | refine Ext.trans ?_ (by assumption))⟩
  have hs1 : decide (200 < szM t) = false := by have := HSZ.out; simp; omega
  have hd1 : decide ((8 : Int) < (t.depth : Int)) = false := by simp; omega
  have hdn : decide (8 < t.depth) = false := by simp; omega
  cases hf : fineT t
  · have HE := Lib.hid (tchk_8 (t := t) (by omega) hf)
    have HF := Lib.hid hf
    clear hf
    go_enter Try.func15, Try.ntmps15
    go_wp2_with (first | (go_at_call 26; ((with_reducible refine (terms_any 5000 (by omega) t ht A n cap _ (HV.out.ext (by repeat (first | exact Ext.refl _ | assumption | refine Ext.alloc ?_ _ | refine Ext.drew ?_ | refine Ext.drewN ?_ _ | refine Ext.trans ?_ (by assumption))))).mono ?_); rintro e w1 ⟨rfl, hq1⟩)) | (go_at_call 29; ((with_reducible refine (deep_any 5000 (by omega) t ht A n cap _ (HV.out.ext (by repeat (first | exact Ext.refl _ | assumption | refine Ext.alloc ?_ _ | refine Ext.drew ?_ | refine Ext.drewN ?_ _ | refine Ext.trans ?_ (by assumption))))).mono ?_); rintro e w4 ⟨rfl, hq4⟩)) | (go_at_call 30; ((with_reducible refine (rfine_any 5000 (by omega) t ht A n cap _ (HV.out.ext (by repeat (first | exact Ext.refl _ | assumption | refine Ext.alloc ?_ _ | refine Ext.drew ?_ | refine Ext.drewN ?_ _ | refine Ext.trans ?_ (by assumption))))).mono ?_); rintro e w2 ⟨rfl, hq2⟩; rw [HF.out])))
    go_ret
    exact ⟨by rw [HE.out]; rfl, by repeat (first | exact Ext.refl _ | assumption | refine Ext.alloc ?_ _ | refine Ext.drew ?_ | refine Ext.drewN ?_ _ | refine Ext.trans ?_ (by assumption))⟩
  · by_cases h3 : 200 < lenT t 0
    · have HE := Lib.hid (tchk_4b (t := t) (by omega) hf h3)
      have HF := Lib.hid hf
      clear hf
      go_enter Try.func15, Try.ntmps15
      go_wp2_with (first | (go_at_call 26; ((with_reducible refine (terms_any 5000 (by omega) t ht A n cap _ (HV.out.ext (by repeat (first | exact Ext.refl _ | assumption | refine Ext.alloc ?_ _ | refine Ext.drew ?_ | refine Ext.drewN ?_ _ | refine Ext.trans ?_ (by assumption))))).mono ?_); rintro e w1 ⟨rfl, hq1⟩)) | (go_at_call 29; ((with_reducible refine (deep_any 5000 (by omega) t ht A n cap _ (HV.out.ext (by repeat (first | exact Ext.refl _ | assumption | refine Ext.alloc ?_ _ | refine Ext.drew ?_ | refine Ext.drewN ?_ _ | refine Ext.trans ?_ (by assumption))))).mono ?_); rintro e w4 ⟨rfl, hq4⟩)) | (go_at_call 30; ((with_reducible refine (rfine_any 5000 (by omega) t ht A n cap _ (HV.out.ext (by repeat (first | exact Ext.refl _ | assumption | refine Ext.alloc ?_ _ | refine Ext.drew ?_ | refine Ext.drewN ?_ _ | refine Ext.trans ?_ (by assumption))))).mono ?_); rintro e w2 ⟨rfl, hq2⟩; rw [HF.out])) | (go_at_call 31; ((with_reducible refine (long_any 5000 (by omega) t ht HF.out A n cap _ (HV.out.ext (by repeat (first | exact Ext.refl _ | assumption | refine Ext.alloc ?_ _ | refine Ext.drew ?_ | refine Ext.drewN ?_ _ | refine Ext.trans ?_ (by assumption))))).mono ?_); rintro e w3 ⟨rfl, hq3⟩)))
      go_ret
      exact ⟨by rw [HE.out]; rfl, by repeat (first | exact Ext.refl _ | assumption | refine Ext.alloc ?_ _ | refine Ext.drew ?_ | refine Ext.drewN ?_ _ | refine Ext.trans ?_ (by assumption))⟩
    · have HE := Lib.hid (tchk_0 (t := t) (by omega) hf h3)
      have HF := Lib.hid hf
      have hl : decide (200 < lenT t 0) = false := by simp; omega
      clear hf
      go_enter Try.func15, Try.ntmps15
      go_wp2_with (first | (go_at_call 26; ((with_reducible refine (terms_any 5000 (by omega) t ht A n cap _ (HV.out.ext (by repeat (first | exact Ext.refl _ | assumption | refine Ext.alloc ?_ _ | refine Ext.drew ?_ | refine Ext.drewN ?_ _ | refine Ext.trans ?_ (by assumption))))).mono ?_); rintro e w1 ⟨rfl, hq1⟩)) | (go_at_call 29; ((with_reducible refine (deep_any 5000 (by omega) t ht A n cap _ (HV.out.ext (by repeat (first | exact Ext.refl _ | assumption | refine Ext.alloc ?_ _ | refine Ext.drew ?_ | refine Ext.drewN ?_ _ | refine Ext.trans ?_ (by assumption))))).mono ?_); rintro e w4 ⟨rfl, hq4⟩)) | (go_at_call 30; ((with_reducible refine (rfine_any 5000 (by omega) t ht A n cap _ (HV.out.ext (by repeat (first | exact Ext.refl _ | assumption | refine Ext.alloc ?_ _ | refine Ext.drew ?_ | refine Ext.drewN ?_ _ | refine Ext.trans ?_ (by assumption))))).mono ?_); rintro e w2 ⟨rfl, hq2⟩; rw [HF.out])) | (go_at_call 31; ((with_reducible refine (long_any 5000 (by omega) t ht HF.out A n cap _ (HV.out.ext (by repeat (first | exact Ext.refl _ | assumption | refine Ext.alloc ?_ _ | refine Ext.drew ?_ | refine Ext.drewN ?_ _ | refine Ext.trans ?_ (by assumption))))).mono ?_); rintro e w3 ⟨rfl, hq3⟩)))
      go_ret
      exact ⟨by rw [HE.out]; rfl, by repeat (first | exact Ext.refl _ | assumption | refine Ext.alloc ?_ _ | refine Ext.drew ?_ | refine Ext.drewN ?_ _ | refine Ext.trans ?_ (by assumption))⟩
/-- what Expand returns -/
def texp_anyE (t : Tms) (w : World) (e : Ending) (w' : World) : Prop := ∃ (A : Option Addr) (n c : Nat), e = .returned (.tuple #[.slice A n c, .int .i64 (tchkE t)]) ∧ Ext w w' ∧ Vec shSt w' A n (if tchkE t = 0 then t.cells else []) ∧ (0 < n → ∀ b off, A = some ⟨b, off, none⟩ → w.heap.size ≤ b)
theorem texp_anyE_mk {t : Tms} {w : World} {e : Ending} {w' : World} {x : Int} {l : List St} (A : Option Addr) (n c : Nat) (hx : tchkE t = x) (hl : (if tchkE t = 0 then t.cells else []) = l) (h1 : e = .returned (.tuple #[.slice A n c, .int .i64 x])) (h2 : Ext w w') (h3 : Vec shSt w' A n l) (h4 : 0 < n → ∀ b off, A = some ⟨b, off, none⟩ → w.heap.size ≤ b) : texp_anyE t w e w' :=
  ⟨A, n, c, by rw [hx]; exact h1, h2, by rw [hl]; exact h3, h4⟩
set_option maxHeartbeats 1000000 in
theorem texp_any (t : Tms) (ht : t.size ≤ 5000) (A : Option Addr) (n cap : Nat) (w : World) (hv : Tv w A n t) :
    Calls Try.prog 10 #[.slice A n cap] w (texp_anyE t w) := by
  have HV := Lib.hid hv
  clear hv
  rcases tchk_vals t with h | h | h
  · have HE := Lib.hid h
    have HL := Lib.hid (show (if tchkE t = 0 then t.cells else []) = t.cells by rw [if_pos h])
    obtain ⟨_, _, g3, g4⟩ := tchk_e h
    have G3 := Lib.hid g3
    clear g3 h
    go_enter Try.func10, Try.ntmps10
    go_wp2_with (first | (go_at_call 14; ((with_reducible refine (tcheck_any t ht A n cap _ (HV.out.ext (by repeat (first | exact Ext.refl _ | assumption | refine Ext.alloc ?_ _ | refine Ext.drew ?_ | refine Ext.drewN ?_ _ | refine Ext.trans ?_ (by assumption))))).mono ?_); rintro e w1 ⟨rfl, hq1⟩; rw [HE.out])) | (go_at_call 23; ((with_reducible refine (expand_any 5000 (by omega) t ht G3.out g4 A n cap _ (HV.out.ext (by repeat (first | exact Ext.refl _ | assumption | refine Ext.alloc ?_ _ | refine Ext.drew ?_ | refine Ext.drewN ?_ _ | refine Ext.trans ?_ (by assumption))))).mono ?_); rintro e w2 ⟨A2, n2, c2, rfl, hq2, hv2, hb2⟩)))
    have HB2 := Lib.hid hb2
    have HV2 := Lib.hid hv2
    have hqq : Ext w w2 := by repeat (first | exact Ext.refl _ | assumption | refine Ext.alloc ?_ _ | refine Ext.drew ?_ | refine Ext.drewN ?_ _ | refine Ext.trans ?_ (by assumption))
    clear hb2 hv2
    go_wp2
    go_ret2
    exact texp_anyE_mk A2 n2 c2 HE.out HL.out rfl (by repeat (first | exact Ext.refl _ | assumption | refine Ext.alloc ?_ _ | refine Ext.drew ?_ | refine Ext.drewN ?_ _ | refine Ext.trans ?_ (by assumption))) HV2.out (fun h b off e => by have h1 := HB2.out h b off e; have h2 := Below.size (show Ext w _ from hq1); (try simp at h1); omega)
  all_goals
    have HE := Lib.hid h
    have HL := Lib.hid (show (if tchkE t = 0 then t.cells else []) = [] by rw [h]; rfl)
    clear h
    go_enter Try.func10, Try.ntmps10
    go_wp2_with (first | (go_at_call 14; ((with_reducible refine (tcheck_any t ht A n cap _ (HV.out.ext (by repeat (first | exact Ext.refl _ | assumption | refine Ext.alloc ?_ _ | refine Ext.drew ?_ | refine Ext.drewN ?_ _ | refine Ext.trans ?_ (by assumption))))).mono ?_); rintro e w1 ⟨rfl, hq1⟩; rw [HE.out])))
    go_ret2
    exact texp_anyE_mk none 0 0 HE.out HL.out rfl (by repeat (first | exact Ext.refl _ | assumption | refine Ext.alloc ?_ _ | refine Ext.drew ?_ | refine Ext.drewN ?_ _ | refine Ext.trans ?_ (by assumption))) (Vec.none_ _ _ _) (fun h => absurd h (by omega))
/-- what Expand returns -/
def trexp_anyE (t : Tms) (w : World) (e : Ending) (w' : World) : Prop := ∃ (A : Option Addr) (n c : Nat), e = .returned (.tuple #[.slice A n c, .int .i64 (tchkE t)]) ∧ Ext w w' ∧ Vec shSt w' A n (if tchkE t = 0 then t.cells else []) ∧ (0 < n → ∀ b off, A = some ⟨b, off, none⟩ → w.heap.size ≤ b)
theorem trexp_anyE_mk {t : Tms} {w : World} {e : Ending} {w' : World} {x : Int} {l : List St} (A : Option Addr) (n c : Nat) (hx : tchkE t = x) (hl : (if tchkE t = 0 then t.cells else []) = l) (h1 : e = .returned (.tuple #[.slice A n c, .int .i64 x])) (h2 : Ext w w') (h3 : Vec shSt w' A n l) (h4 : 0 < n → ∀ b off, A = some ⟨b, off, none⟩ → w.heap.size ≤ b) : trexp_anyE t w e w' :=
  ⟨A, n, c, by rw [hx]; exact h1, h2, by rw [hl]; exact h3, h4⟩
set_option maxHeartbeats 1000000 in
theorem trexp_any (t : Tms) (ht : t.size ≤ 5000) (A : Option Addr) (n cap : Nat) (w : World) (hv : Tv w A n t) :
    Calls Try.prog 11 #[.slice A n cap] w (trexp_anyE t w) := by
  have HV := Lib.hid hv
  clear hv
  rcases tchk_vals t with h | h | h
  · have HE := Lib.hid h
    have HL := Lib.hid (show (if tchkE t = 0 then t.cells else []) = t.cells by rw [if_pos h])
    obtain ⟨_, _, g3, g4⟩ := tchk_e h
    have G3 := Lib.hid g3
    clear g3 h
    go_enter Try.func11, Try.ntmps11
    go_wp2_with (first | (go_at_call 15; ((with_reducible refine (trcheck_any t ht A n cap _ (HV.out.ext (by repeat (first | exact Ext.refl _ | assumption | refine Ext.alloc ?_ _ | refine Ext.drew ?_ | refine Ext.drewN ?_ _ | refine Ext.trans ?_ (by assumption))))).mono ?_); rintro e w1 ⟨rfl, hq1⟩; rw [HE.out])) | (go_at_call 24; ((with_reducible refine (cells_any 5000 (by omega) t ht G3.out g4 A n cap _ (HV.out.ext (by repeat (first | exact Ext.refl _ | assumption | refine Ext.alloc ?_ _ | refine Ext.drew ?_ | refine Ext.drewN ?_ _ | refine Ext.trans ?_ (by assumption))))).mono ?_); rintro e w2 ⟨A2, n2, c2, rfl, hq2, hv2, hb2⟩)))
    have HB2 := Lib.hid hb2
    have HV2 := Lib.hid hv2
    have hqq : Ext w w2 := by repeat (first | exact Ext.refl _ | assumption | refine Ext.alloc ?_ _ | refine Ext.drew ?_ | refine Ext.drewN ?_ _ | refine Ext.trans ?_ (by assumption))
    clear hb2 hv2
    go_wp2
    go_ret2
    exact trexp_anyE_mk A2 n2 c2 HE.out HL.out rfl (by repeat (first | exact Ext.refl _ | assumption | refine Ext.alloc ?_ _ | refine Ext.drew ?_ | refine Ext.drewN ?_ _ | refine Ext.trans ?_ (by assumption))) HV2.out (fun h b off e => by have h1 := HB2.out h b off e; have h2 := Below.size (show Ext w _ from hq1); (try simp at h1); omega)
  all_goals
    have HE := Lib.hid h
    have HL := Lib.hid (show (if tchkE t = 0 then t.cells else []) = [] by rw [h]; rfl)
    clear h
    go_enter Try.func11, Try.ntmps11
    go_wp2_with (first | (go_at_call 15; ((with_reducible refine (trcheck_any t ht A n cap _ (HV.out.ext (by repeat (first | exact Ext.refl _ | assumption | refine Ext.alloc ?_ _ | refine Ext.drew ?_ | refine Ext.drewN ?_ _ | refine Ext.trans ?_ (by assumption))))).mono ?_); rintro e w1 ⟨rfl, hq1⟩; rw [HE.out])))
    go_ret2
    exact trexp_anyE_mk none 0 0 HE.out HL.out rfl (by repeat (first | exact Ext.refl _ | assumption | refine Ext.alloc ?_ _ | refine Ext.drew ?_ | refine Ext.drewN ?_ _ | refine Ext.trans ?_ (by assumption))) (Vec.none_ _ _ _) (fun h => absurd h (by omega))
/-- the size that Size returns -/
def tszV (t : Tms) : Int := if tchkE t = 0 then szM t else 0
set_option maxHeartbeats 1000000 in
theorem tsize_any (t : Tms) (ht : t.size ≤ 5000) (A : Option Addr) (n cap : Nat) (w : World) (hv : Tv w A n t) :
    Calls Try.prog 12 #[.slice A n cap] w fun e w' => e = .returned (.tuple #[.int .i64 (tszV t), .int .i64 (tchkE t)]) ∧ Ext w w' := by
  have HV := Lib.hid hv
  clear hv
  rcases tchk_vals t with h | h | h
  · have HE := Lib.hid h
    have HL := Lib.hid (show tszV t = szM t by rw [tszV, if_pos h])
    clear h
    go_enter Try.func12, Try.ntmps12
    go_wp2_with (first | (go_at_call 14; ((with_reducible refine (tcheck_any t ht A n cap _ (HV.out.ext (by repeat (first | exact Ext.refl _ | assumption | refine Ext.alloc ?_ _ | refine Ext.drew ?_ | refine Ext.drewN ?_ _ | refine Ext.trans ?_ (by assumption))))).mono ?_); rintro e w1 ⟨rfl, hq1⟩; rw [HE.out])) | (go_at_call 25; ((with_reducible refine (size_any 5000 (by omega) t ht A n cap _ (HV.out.ext (by repeat (first | exact Ext.refl _ | assumption | refine Ext.alloc ?_ _ | refine Ext.drew ?_ | refine Ext.drewN ?_ _ | refine Ext.trans ?_ (by assumption))))).mono ?_); rintro e w2 ⟨rfl, hq2⟩)))
    go_ret2
    exact ⟨by rw [HE.out, HL.out]; rfl, by repeat (first | exact Ext.refl _ | assumption | refine Ext.alloc ?_ _ | refine Ext.drew ?_ | refine Ext.drewN ?_ _ | refine Ext.trans ?_ (by assumption))⟩
  all_goals
    have HE := Lib.hid h
    have HL := Lib.hid (show tszV t = 0 by rw [tszV, if_neg (by omega)])
    clear h
    go_enter Try.func12, Try.ntmps12
    go_wp2_with (first | (go_at_call 14; ((with_reducible refine (tcheck_any t ht A n cap _ (HV.out.ext (by repeat (first | exact Ext.refl _ | assumption | refine Ext.alloc ?_ _ | refine Ext.drew ?_ | refine Ext.drewN ?_ _ | refine Ext.trans ?_ (by assumption))))).mono ?_); rintro e w1 ⟨rfl, hq1⟩; rw [HE.out])))
    go_ret2
    exact ⟨by rw [HE.out, HL.out]; rfl, by repeat (first | exact Ext.refl _ | assumption | refine Ext.alloc ?_ _ | refine Ext.drew ?_ | refine Ext.drewN ?_ _ | refine Ext.trans ?_ (by assumption))⟩
set_option maxHeartbeats 1000000 in
theorem trsize_any (t : Tms) (ht : t.size ≤ 5000) (A : Option Addr) (n cap : Nat) (w : World) (hv : Tv w A n t) :
    Calls Try.prog 13 #[.slice A n cap] w fun e w' => e = .returned (.tuple #[.int .i64 (tszV t), .int .i64 (tchkE t)]) ∧ Ext w w' := by
  have HV := Lib.hid hv
  clear hv
  rcases tchk_vals t with h | h | h
  · have HE := Lib.hid h
    have HL := Lib.hid (show tszV t = szM t by rw [tszV, if_pos h])
    clear h
    go_enter Try.func13, Try.ntmps13
    go_wp2_with (first | (go_at_call 15; ((with_reducible refine (trcheck_any t ht A n cap _ (HV.out.ext (by repeat (first | exact Ext.refl _ | assumption | refine Ext.alloc ?_ _ | refine Ext.drew ?_ | refine Ext.drewN ?_ _ | refine Ext.trans ?_ (by assumption))))).mono ?_); rintro e w1 ⟨rfl, hq1⟩; rw [HE.out])) | (go_at_call 26; ((with_reducible refine (terms_any 5000 (by omega) t ht A n cap _ (HV.out.ext (by repeat (first | exact Ext.refl _ | assumption | refine Ext.alloc ?_ _ | refine Ext.drew ?_ | refine Ext.drewN ?_ _ | refine Ext.trans ?_ (by assumption))))).mono ?_); rintro e w2 ⟨rfl, hq2⟩)))
    go_ret2
    exact ⟨by rw [HE.out, HL.out]; rfl, by repeat (first | exact Ext.refl _ | assumption | refine Ext.alloc ?_ _ | refine Ext.drew ?_ | refine Ext.drewN ?_ _ | refine Ext.trans ?_ (by assumption))⟩
  all_goals
    have HE := Lib.hid h
    have HL := Lib.hid (show tszV t = 0 by rw [tszV, if_neg (by omega)])
    clear h
    go_enter Try.func13, Try.ntmps13
    go_wp2_with (first | (go_at_call 15; ((with_reducible refine (trcheck_any t ht A n cap _ (HV.out.ext (by repeat (first | exact Ext.refl _ | assumption | refine Ext.alloc ?_ _ | refine Ext.drew ?_ | refine Ext.drewN ?_ _ | refine Ext.trans ?_ (by assumption))))).mono ?_); rintro e w1 ⟨rfl, hq1⟩; rw [HE.out])))
    go_ret2
    exact ⟨by rw [HE.out, HL.out]; rfl, by repeat (first | exact Ext.refl _ | assumption | refine Ext.alloc ?_ _ | refine Ext.drew ?_ | refine Ext.drewN ?_ _ | refine Ext.trans ?_ (by assumption))⟩
end Go.Proofs.Ytfbfkoeaihknoaa
