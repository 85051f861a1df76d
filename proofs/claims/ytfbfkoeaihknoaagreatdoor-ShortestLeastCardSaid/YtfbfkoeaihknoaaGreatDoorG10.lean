/- The contracts of Check, Expand and Size of terms, both. -/
import Derived.Test.YtfbfkoeaihknoaaGreatDoorG09
import Derived.Test.YtfbfkoeaihknoaaGreatDoorG00
import Derived.Test.YtfbfkoeaihknoaaGreatDoorRows
import Derived.ProofKit
import Derived.OpenShut
import Derived.Lib.SmallJoins
namespace Go.Proofs.YtfbfkoeaihknoaaGreatDoor
set_option maxRecDepth 100000
open Go.RowKit Go.ChangeShapes Go.WideShapes Go.Joins
theorem tchk_4a {t : Tms} (h : 200 < t.size ∨ 8 < t.depth) : tchkE t = 4 := by rw [tchkE, if_pos h]
theorem tchk_8 {t : Tms} (h : ¬ (200 < t.size ∨ 8 < t.depth)) (h2 : fineT t = false) : tchkE t = 8 := by rw [tchkE, if_neg h, h2]; rfl
theorem tchk_4b {t : Tms} (h : ¬ (200 < t.size ∨ 8 < t.depth)) (h2 : fineT t = true) (h3 : 200 < lenT t 0) : tchkE t = 4 := by rw [tchkE, if_neg h, if_pos h2, if_pos h3]
theorem tchk_0 {t : Tms} (h : ¬ (200 < t.size ∨ 8 < t.depth)) (h2 : fineT t = true) (h3 : ¬ 200 < lenT t 0) : tchkE t = 0 := by rw [tchkE, if_neg h, if_pos h2, if_neg h3]
theorem tchk_vals (t : Tms) : tchkE t = 0 ∨ tchkE t = 4 ∨ tchkE t = 8 := by
  unfold tchkE; split
  · exact .inr (.inl rfl)
  · split
    · split
      · exact .inr (.inl rfl)
      · exact .inl rfl
    · exact .inr (.inr rfl)
set_option maxHeartbeats 1000000 in
theorem tcheck_any (t : Tms) (ht : t.size ≤ 5000) (A : Option Addr) (n cap : Nat) (w : World) (hv : Tv w A n t) :
    Calls Tryz.prog 21 #[.slice A n cap] w fun e w' => e = .returned (.int .i64 (tchkE t)) ∧ Ext w w' := by
  have HV := Lib.hid hv
  have hsz : szM t = min (t.size : Int) 201 := rfl
  have HSZ := Lib.hid hsz
  clear hv hsz
  by_cases h1 : 200 < t.size
  · have HE := Lib.hid (tchk_4a (t := t) (.inl h1))
    have hs1 : 200 < szM t := by have := HSZ.out; omega
    have hs2 : szM t ≤ 201 := by have := HSZ.out; omega
    go_enter Tryz.func21, Tryz.ntmps21
    go_wp2_with (first | (go_at_call 37; ((with_reducible refine (size_any 5000 (by omega) t ht A n cap _ (HV.out.ext (by repeat (first | exact Ext.refl _ | assumption | refine Ext.alloc ?_ _ | refine Ext.drew ?_ | refine Ext.drewN ?_ _ | refine Ext.trans ?_ (by assumption))))).mono ?_); rintro e w1 ⟨rfl, hq1⟩)))
    go_ret
    exact ⟨by rw [HE.out]; rfl, by repeat (first | exact Ext.refl _ | assumption | refine Ext.alloc ?_ _ | refine Ext.drew ?_ | refine Ext.drewN ?_ _ | refine Ext.trans ?_ (by assumption))⟩
  by_cases h2 : 8 < t.depth
  · have HE := Lib.hid (tchk_4a (t := t) (.inr h2))
    have hs1 : decide (200 < szM t) = false := by have := HSZ.out; simp; omega
    have hd1 : (8 : Int) < (t.depth : Int) := by omega
    go_enter Tryz.func21, Tryz.ntmps21
    go_wp2_with (first | (go_at_call 37; ((with_reducible refine (size_any 5000 (by omega) t ht A n cap _ (HV.out.ext (by repeat (first | exact Ext.refl _ | assumption | refine Ext.alloc ?_ _ | refine Ext.drew ?_ | refine Ext.drewN ?_ _ | refine Ext.trans ?_ (by assumption))))).mono ?_); rintro e w1 ⟨rfl, hq1⟩)))
    go_ret
    exact ⟨by rw [HE.out]; rfl, by repeat (first | exact Ext.refl _ | assumption | refine Ext.alloc ?_ _ | refine Ext.drew ?_ | refine Ext.drewN ?_ _ | refine Ext.trans ?_ (by assumption))⟩
  have hs1 : decide (200 < szM t) = false := by have := HSZ.out; simp; omega
  have hd1 : decide ((8 : Int) < (t.depth : Int)) = false := by simp; omega
  have hdn : decide (8 < t.depth) = false := by simp; omega
  cases hf : fineT t
  · have HE := Lib.hid (tchk_8 (t := t) (by omega) hf)
    have HF := Lib.hid hf
    clear hf
    go_enter Tryz.func21, Tryz.ntmps21
    go_wp2_with (first | (go_at_call 37; ((with_reducible refine (size_any 5000 (by omega) t ht A n cap _ (HV.out.ext (by repeat (first | exact Ext.refl _ | assumption | refine Ext.alloc ?_ _ | refine Ext.drew ?_ | refine Ext.drewN ?_ _ | refine Ext.trans ?_ (by assumption))))).mono ?_); rintro e w1 ⟨rfl, hq1⟩)) | (go_at_call 38; ((with_reducible refine (fine_any 5000 (by omega) t ht A n cap _ (HV.out.ext (by repeat (first | exact Ext.refl _ | assumption | refine Ext.alloc ?_ _ | refine Ext.drew ?_ | refine Ext.drewN ?_ _ | refine Ext.trans ?_ (by assumption))))).mono ?_); rintro e w2 ⟨rfl, hq2⟩; rw [HF.out])))
    go_ret
    exact ⟨by rw [HE.out]; rfl, by repeat (first | exact Ext.refl _ | assumption | refine Ext.alloc ?_ _ | refine Ext.drew ?_ | refine Ext.drewN ?_ _ | refine Ext.trans ?_ (by assumption))⟩
  · by_cases h3 : 200 < lenT t 0
    · have HE := Lib.hid (tchk_4b (t := t) (by omega) hf h3)
      have HF := Lib.hid hf
      clear hf
      go_enter Tryz.func21, Tryz.ntmps21
      go_wp2_with (first | (go_at_call 37; ((with_reducible refine (size_any 5000 (by omega) t ht A n cap _ (HV.out.ext (by repeat (first | exact Ext.refl _ | assumption | refine Ext.alloc ?_ _ | refine Ext.drew ?_ | refine Ext.drewN ?_ _ | refine Ext.trans ?_ (by assumption))))).mono ?_); rintro e w1 ⟨rfl, hq1⟩)) | (go_at_call 38; ((with_reducible refine (fine_any 5000 (by omega) t ht A n cap _ (HV.out.ext (by repeat (first | exact Ext.refl _ | assumption | refine Ext.alloc ?_ _ | refine Ext.drew ?_ | refine Ext.drewN ?_ _ | refine Ext.trans ?_ (by assumption))))).mono ?_); rintro e w2 ⟨rfl, hq2⟩; rw [HF.out])) | (go_at_call 39; ((with_reducible refine (length_any 5000 (by omega) t ht HF.out A n cap _ (HV.out.ext (by repeat (first | exact Ext.refl _ | assumption | refine Ext.alloc ?_ _ | refine Ext.drew ?_ | refine Ext.drewN ?_ _ | refine Ext.trans ?_ (by assumption))))).mono ?_); rintro e w3 ⟨rfl, hq3⟩)))
      go_ret
      exact ⟨by rw [HE.out]; rfl, by repeat (first | exact Ext.refl _ | assumption | refine Ext.alloc ?_ _ | refine Ext.drew ?_ | refine Ext.drewN ?_ _ | refine Ext.trans ?_ (by assumption))⟩
    · have HE := Lib.hid (tchk_0 (t := t) (by omega) hf h3)
      have HF := Lib.hid hf
      have hl : decide (200 < lenT t 0) = false := by simp; omega
      clear hf
      go_enter Tryz.func21, Tryz.ntmps21
      go_wp2_with (first | (go_at_call 37; ((with_reducible refine (size_any 5000 (by omega) t ht A n cap _ (HV.out.ext (by repeat (first | exact Ext.refl _ | assumption | refine Ext.alloc ?_ _ | refine Ext.drew ?_ | refine Ext.drewN ?_ _ | refine Ext.trans ?_ (by assumption))))).mono ?_); rintro e w1 ⟨rfl, hq1⟩)) | (go_at_call 38; ((with_reducible refine (fine_any 5000 (by omega) t ht A n cap _ (HV.out.ext (by repeat (first | exact Ext.refl _ | assumption | refine Ext.alloc ?_ _ | refine Ext.drew ?_ | refine Ext.drewN ?_ _ | refine Ext.trans ?_ (by assumption))))).mono ?_); rintro e w2 ⟨rfl, hq2⟩; rw [HF.out])) | (go_at_call 39; ((with_reducible refine (length_any 5000 (by omega) t ht HF.out A n cap _ (HV.out.ext (by repeat (first | exact Ext.refl _ | assumption | refine Ext.alloc ?_ _ | refine Ext.drew ?_ | refine Ext.drewN ?_ _ | refine Ext.trans ?_ (by assumption))))).mono ?_); rintro e w3 ⟨rfl, hq3⟩)))
      go_ret
      exact ⟨by rw [HE.out]; rfl, by repeat (first | exact Ext.refl _ | assumption | refine Ext.alloc ?_ _ | refine Ext.drew ?_ | refine Ext.drewN ?_ _ | refine Ext.trans ?_ (by assumption))⟩
set_option maxHeartbeats 1000000 in
theorem trcheck_any (t : Tms) (ht : t.size ≤ 5000) (A : Option Addr) (n cap : Nat) (w : World) (hv : Tv w A n t) :
    Calls Tryz.prog 31 #[.slice A n cap] w fun e w' => e = .returned (.int .i64 (tchkE t)) ∧ Ext w w' := by
  have HV := Lib.hid hv
  have hsz : szM t = min (t.size : Int) 201 := rfl
  have HSZ := Lib.hid hsz
  clear hv hsz
  by_cases h1 : 200 < t.size
  · have HE := Lib.hid (tchk_4a (t := t) (.inl h1))
    have hs1 : 200 < szM t := by have := HSZ.out; omega
    have hs2 : szM t ≤ 201 := by have := HSZ.out; omega
    go_enter Tryz.func31, Tryz.ntmps31
    go_wp2_with (first | (go_at_call 47; ((with_reducible refine (terms_any 5000 (by omega) t ht A n cap _ (HV.out.ext (by repeat (first | exact Ext.refl _ | assumption | refine Ext.alloc ?_ _ | refine Ext.drew ?_ | refine Ext.drewN ?_ _ | refine Ext.trans ?_ (by assumption))))).mono ?_); rintro e w1 ⟨rfl, hq1⟩)))
    go_ret
    exact ⟨by rw [HE.out]; rfl, by repeat (first | exact Ext.refl _ | assumption | refine Ext.alloc ?_ _ | refine Ext.drew ?_ | refine Ext.drewN ?_ _ | refine Ext.trans ?_ (by assumption))⟩
  by_cases h2 : 8 < t.depth
  · have HE := Lib.hid (tchk_4a (t := t) (.inr h2))
    have hs1 : decide (200 < szM t) = false := by have := HSZ.out; simp; omega
    have hd1 : (8 : Int) < (t.depth : Int) := by omega
    go_enter Tryz.func31, Tryz.ntmps31
    go_wp2_with (first | (go_at_call 47; ((with_reducible refine (terms_any 5000 (by omega) t ht A n cap _ (HV.out.ext (by repeat (first | exact Ext.refl _ | assumption | refine Ext.alloc ?_ _ | refine Ext.drew ?_ | refine Ext.drewN ?_ _ | refine Ext.trans ?_ (by assumption))))).mono ?_); rintro e w1 ⟨rfl, hq1⟩)) | (go_at_call 48; ((with_reducible refine (deep_any 5000 (by omega) t ht A n cap _ (HV.out.ext (by repeat (first | exact Ext.refl _ | assumption | refine Ext.alloc ?_ _ | refine Ext.drew ?_ | refine Ext.drewN ?_ _ | refine Ext.trans ?_ (by assumption))))).mono ?_); rintro e w4 ⟨rfl, hq4⟩)))
    go_ret
    exact ⟨by rw [HE.out]; rfl, by repeat (first | exact Ext.refl _ | assumption | refine Ext.alloc ?_ _ | refine Ext.drew ?_ | refine Ext.drewN ?_ _ | refine Ext.trans ?_ (by assumption))⟩
  have hs1 : decide (200 < szM t) = false := by have := HSZ.out; simp; omega
  have hd1 : decide ((8 : Int) < (t.depth : Int)) = false := by simp; omega
  have hdn : decide (8 < t.depth) = false := by simp; omega
  cases hf : fineT t
  · have HE := Lib.hid (tchk_8 (t := t) (by omega) hf)
    have HF := Lib.hid hf
    clear hf
    go_enter Tryz.func31, Tryz.ntmps31
    go_wp2_with (first | (go_at_call 47; ((with_reducible refine (terms_any 5000 (by omega) t ht A n cap _ (HV.out.ext (by repeat (first | exact Ext.refl _ | assumption | refine Ext.alloc ?_ _ | refine Ext.drew ?_ | refine Ext.drewN ?_ _ | refine Ext.trans ?_ (by assumption))))).mono ?_); rintro e w1 ⟨rfl, hq1⟩)) | (go_at_call 48; ((with_reducible refine (deep_any 5000 (by omega) t ht A n cap _ (HV.out.ext (by repeat (first | exact Ext.refl _ | assumption | refine Ext.alloc ?_ _ | refine Ext.drew ?_ | refine Ext.drewN ?_ _ | refine Ext.trans ?_ (by assumption))))).mono ?_); rintro e w4 ⟨rfl, hq4⟩)) | (go_at_call 49; ((with_reducible refine (rfine_any 5000 (by omega) t ht A n cap _ (HV.out.ext (by repeat (first | exact Ext.refl _ | assumption | refine Ext.alloc ?_ _ | refine Ext.drew ?_ | refine Ext.drewN ?_ _ | refine Ext.trans ?_ (by assumption))))).mono ?_); rintro e w2 ⟨rfl, hq2⟩; rw [HF.out])))
    go_ret
    exact ⟨by rw [HE.out]; rfl, by repeat (first | exact Ext.refl _ | assumption | refine Ext.alloc ?_ _ | refine Ext.drew ?_ | refine Ext.drewN ?_ _ | refine Ext.trans ?_ (by assumption))⟩
  · by_cases h3 : 200 < lenT t 0
    · have HE := Lib.hid (tchk_4b (t := t) (by omega) hf h3)
      have HF := Lib.hid hf
      clear hf
      go_enter Tryz.func31, Tryz.ntmps31
      go_wp2_with (first | (go_at_call 47; ((with_reducible refine (terms_any 5000 (by omega) t ht A n cap _ (HV.out.ext (by repeat (first | exact Ext.refl _ | assumption | refine Ext.alloc ?_ _ | refine Ext.drew ?_ | refine Ext.drewN ?_ _ | refine Ext.trans ?_ (by assumption))))).mono ?_); rintro e w1 ⟨rfl, hq1⟩)) | (go_at_call 48; ((with_reducible refine (deep_any 5000 (by omega) t ht A n cap _ (HV.out.ext (by repeat (first | exact Ext.refl _ | assumption | refine Ext.alloc ?_ _ | refine Ext.drew ?_ | refine Ext.drewN ?_ _ | refine Ext.trans ?_ (by assumption))))).mono ?_); rintro e w4 ⟨rfl, hq4⟩)) | (go_at_call 49; ((with_reducible refine (rfine_any 5000 (by omega) t ht A n cap _ (HV.out.ext (by repeat (first | exact Ext.refl _ | assumption | refine Ext.alloc ?_ _ | refine Ext.drew ?_ | refine Ext.drewN ?_ _ | refine Ext.trans ?_ (by assumption))))).mono ?_); rintro e w2 ⟨rfl, hq2⟩; rw [HF.out])) | (go_at_call 50; ((with_reducible refine (long_any 5000 (by omega) t ht HF.out A n cap _ (HV.out.ext (by repeat (first | exact Ext.refl _ | assumption | refine Ext.alloc ?_ _ | refine Ext.drew ?_ | refine Ext.drewN ?_ _ | refine Ext.trans ?_ (by assumption))))).mono ?_); rintro e w3 ⟨rfl, hq3⟩)))
      go_ret
      exact ⟨by rw [HE.out]; rfl, by repeat (first | exact Ext.refl _ | assumption | refine Ext.alloc ?_ _ | refine Ext.drew ?_ | refine Ext.drewN ?_ _ | refine Ext.trans ?_ (by assumption))⟩
    · have HE := Lib.hid (tchk_0 (t := t) (by omega) hf h3)
      have HF := Lib.hid hf
      have hl : decide (200 < lenT t 0) = false := by simp; omega
      clear hf
      go_enter Tryz.func31, Tryz.ntmps31
      go_wp2_with (first | (go_at_call 47; ((with_reducible refine (terms_any 5000 (by omega) t ht A n cap _ (HV.out.ext (by repeat (first | exact Ext.refl _ | assumption | refine Ext.alloc ?_ _ | refine Ext.drew ?_ | refine Ext.drewN ?_ _ | refine Ext.trans ?_ (by assumption))))).mono ?_); rintro e w1 ⟨rfl, hq1⟩)) | (go_at_call 48; ((with_reducible refine (deep_any 5000 (by omega) t ht A n cap _ (HV.out.ext (by repeat (first | exact Ext.refl _ | assumption | refine Ext.alloc ?_ _ | refine Ext.drew ?_ | refine Ext.drewN ?_ _ | refine Ext.trans ?_ (by assumption))))).mono ?_); rintro e w4 ⟨rfl, hq4⟩)) | (go_at_call 49; ((with_reducible refine (rfine_any 5000 (by omega) t ht A n cap _ (HV.out.ext (by repeat (first | exact Ext.refl _ | assumption | refine Ext.alloc ?_ _ | refine Ext.drew ?_ | refine Ext.drewN ?_ _ | refine Ext.trans ?_ (by assumption))))).mono ?_); rintro e w2 ⟨rfl, hq2⟩; rw [HF.out])) | (go_at_call 50; ((with_reducible refine (long_any 5000 (by omega) t ht HF.out A n cap _ (HV.out.ext (by repeat (first | exact Ext.refl _ | assumption | refine Ext.alloc ?_ _ | refine Ext.drew ?_ | refine Ext.drewN ?_ _ | refine Ext.trans ?_ (by assumption))))).mono ?_); rintro e w3 ⟨rfl, hq3⟩)))
      go_ret
      exact ⟨by rw [HE.out]; rfl, by repeat (first | exact Ext.refl _ | assumption | refine Ext.alloc ?_ _ | refine Ext.drew ?_ | refine Ext.drewN ?_ _ | refine Ext.trans ?_ (by assumption))⟩
/-- what Expand returns -/
def texp_anyE (t : Tms) (w : World) (e : Ending) (w' : World) : Prop := ∃ (A : Option Addr) (n c : Nat), e = .returned (.tuple #[.slice A n c, .int .i64 (tchkE t)]) ∧ Ext w w' ∧ Vec shSt w' A n (if tchkE t = 0 then t.cells else []) ∧ (0 < n → ∀ b off, A = some ⟨b, off, none⟩ → w.heap.size ≤ b)
theorem texp_anyE_mk {t : Tms} {w : World} {e : Ending} {w' : World} {x : Int} {l : List St} (A : Option Addr) (n c : Nat) (hx : tchkE t = x) (hl : (if tchkE t = 0 then t.cells else []) = l) (h1 : e = .returned (.tuple #[.slice A n c, .int .i64 x])) (h2 : Ext w w') (h3 : Vec shSt w' A n l) (h4 : 0 < n → ∀ b off, A = some ⟨b, off, none⟩ → w.heap.size ≤ b) : texp_anyE t w e w' :=
  ⟨A, n, c, by rw [hx]; exact h1, h2, by rw [hl]; exact h3, h4⟩
set_option maxHeartbeats 1000000 in
theorem texp_any (t : Tms) (ht : t.size ≤ 5000) (A : Option Addr) (n cap : Nat) (w : World) (hv : Tv w A n t) :
    Calls Tryz.prog 24 #[.slice A n cap] w (texp_anyE t w) := by
  have HV := Lib.hid hv
  clear hv
  rcases tchk_vals t with h | h | h
  · have HE := Lib.hid h
    have HL := Lib.hid (show (if tchkE t = 0 then t.cells else []) = t.cells by rw [if_pos h])
    obtain ⟨_, _, g3, g4⟩ := tchk_e h
    have G3 := Lib.hid g3
    clear g3 h
    go_enter Tryz.func24, Tryz.ntmps24
    go_wp2_with (first | (go_at_call 21; ((with_reducible refine (tcheck_any t ht A n cap _ (HV.out.ext (by repeat (first | exact Ext.refl _ | assumption | refine Ext.alloc ?_ _ | refine Ext.drew ?_ | refine Ext.drewN ?_ _ | refine Ext.trans ?_ (by assumption))))).mono ?_); rintro e w1 ⟨rfl, hq1⟩; rw [HE.out])) | (go_at_call 42; ((with_reducible refine (expand_any 5000 (by omega) t ht G3.out g4 A n cap _ (HV.out.ext (by repeat (first | exact Ext.refl _ | assumption | refine Ext.alloc ?_ _ | refine Ext.drew ?_ | refine Ext.drewN ?_ _ | refine Ext.trans ?_ (by assumption))))).mono ?_); rintro e w2 ⟨A2, n2, c2, rfl, hq2, hv2, hb2⟩)))
    have HB2 := Lib.hid hb2
    have HV2 := Lib.hid hv2
    have hqq : Ext w w2 := by repeat (first | exact Ext.refl _ | assumption | refine Ext.alloc ?_ _ | refine Ext.drew ?_ | refine Ext.drewN ?_ _ | refine Ext.trans ?_ (by assumption))
    clear hb2 hv2
    go_wp2
    go_ret2
    exact texp_anyE_mk A2 n2 c2 HE.out HL.out rfl (by repeat (first | exact Ext.refl _ | assumption | refine Ext.alloc ?_ _ | refine Ext.drew ?_ | refine Ext.drewN ?_ _ | refine Ext.trans ?_ (by assumption))) HV2.out (fun h b off e => by have h1 := HB2.out h b off e; have h2 := Below.size (show Ext w _ from hq1); (try simp at h1); omega)
  all_goals
    have HE := Lib.hid h
    have HL := Lib.hid (show (if tchkE t = 0 then t.cells else []) = [] by rw [h]; rfl)
    clear h
    go_enter Tryz.func24, Tryz.ntmps24
    go_wp2_with (first | (go_at_call 21; ((with_reducible refine (tcheck_any t ht A n cap _ (HV.out.ext (by repeat (first | exact Ext.refl _ | assumption | refine Ext.alloc ?_ _ | refine Ext.drew ?_ | refine Ext.drewN ?_ _ | refine Ext.trans ?_ (by assumption))))).mono ?_); rintro e w1 ⟨rfl, hq1⟩; rw [HE.out])))
    go_ret2
    exact texp_anyE_mk none 0 0 HE.out HL.out rfl (by repeat (first | exact Ext.refl _ | assumption | refine Ext.alloc ?_ _ | refine Ext.drew ?_ | refine Ext.drewN ?_ _ | refine Ext.trans ?_ (by assumption))) (Vec.none_ _ _ _) (fun h => absurd h (by omega))
/-- what Expand returns -/
def trexp_anyE (t : Tms) (w : World) (e : Ending) (w' : World) : Prop := ∃ (A : Option Addr) (n c : Nat), e = .returned (.tuple #[.slice A n c, .int .i64 (tchkE t)]) ∧ Ext w w' ∧ Vec shSt w' A n (if tchkE t = 0 then t.cells else []) ∧ (0 < n → ∀ b off, A = some ⟨b, off, none⟩ → w.heap.size ≤ b)
theorem trexp_anyE_mk {t : Tms} {w : World} {e : Ending} {w' : World} {x : Int} {l : List St} (A : Option Addr) (n c : Nat) (hx : tchkE t = x) (hl : (if tchkE t = 0 then t.cells else []) = l) (h1 : e = .returned (.tuple #[.slice A n c, .int .i64 x])) (h2 : Ext w w') (h3 : Vec shSt w' A n l) (h4 : 0 < n → ∀ b off, A = some ⟨b, off, none⟩ → w.heap.size ≤ b) : trexp_anyE t w e w' :=
  ⟨A, n, c, by rw [hx]; exact h1, h2, by rw [hl]; exact h3, h4⟩
/-- the size that Size returns -/
def tszV (t : Tms) : Int := if tchkE t = 0 then szM t else 0
set_option maxHeartbeats 1000000 in
theorem tsize_any (t : Tms) (ht : t.size ≤ 5000) (A : Option Addr) (n cap : Nat) (w : World) (hv : Tv w A n t) :
    Calls Tryz.prog 26 #[.slice A n cap] w fun e w' => e = .returned (.tuple #[.int .i64 (tszV t), .int .i64 (tchkE t)]) ∧ Ext w w' := by
  have HV := Lib.hid hv
  clear hv
  rcases tchk_vals t with h | h | h
  · have HE := Lib.hid h
    have HL := Lib.hid (show tszV t = szM t by rw [tszV, if_pos h])
    clear h
    go_enter Tryz.func26, Tryz.ntmps26
    go_wp2_with (first | (go_at_call 21; ((with_reducible refine (tcheck_any t ht A n cap _ (HV.out.ext (by repeat (first | exact Ext.refl _ | assumption | refine Ext.alloc ?_ _ | refine Ext.drew ?_ | refine Ext.drewN ?_ _ | refine Ext.trans ?_ (by assumption))))).mono ?_); rintro e w1 ⟨rfl, hq1⟩; rw [HE.out])) | (go_at_call 37; ((with_reducible refine (size_any 5000 (by omega) t ht A n cap _ (HV.out.ext (by repeat (first | exact Ext.refl _ | assumption | refine Ext.alloc ?_ _ | refine Ext.drew ?_ | refine Ext.drewN ?_ _ | refine Ext.trans ?_ (by assumption))))).mono ?_); rintro e w2 ⟨rfl, hq2⟩)))
    go_ret2
    exact ⟨by rw [HE.out, HL.out]; rfl, by repeat (first | exact Ext.refl _ | assumption | refine Ext.alloc ?_ _ | refine Ext.drew ?_ | refine Ext.drewN ?_ _ | refine Ext.trans ?_ (by assumption))⟩
  all_goals
    have HE := Lib.hid h
    have HL := Lib.hid (show tszV t = 0 by rw [tszV, if_neg (by omega)])
    clear h
    go_enter Tryz.func26, Tryz.ntmps26
    go_wp2_with (first | (go_at_call 21; ((with_reducible refine (tcheck_any t ht A n cap _ (HV.out.ext (by repeat (first | exact Ext.refl _ | assumption | refine Ext.alloc ?_ _ | refine Ext.drew ?_ | refine Ext.drewN ?_ _ | refine Ext.trans ?_ (by assumption))))).mono ?_); rintro e w1 ⟨rfl, hq1⟩; rw [HE.out])))
    go_ret2
    exact ⟨by rw [HE.out, HL.out]; rfl, by repeat (first | exact Ext.refl _ | assumption | refine Ext.alloc ?_ _ | refine Ext.drew ?_ | refine Ext.drewN ?_ _ | refine Ext.trans ?_ (by assumption))⟩
end Go.Proofs.YtfbfkoeaihknoaaGreatDoor
/- The other side of a stitch and of a list of stitches, in plain Lean. -/
namespace Go.Proofs.YtfbfkoeaihknoaaGreatDoor
set_option maxRecDepth 100000
/-- the other side -/
def otherSt (s : St) : St := ⟨s.k, fsd s.k && !s.p, if s.k = 6 ∨ s.k = 7 then s.b else s.a, if s.k = 6 ∨ s.k = 7 then s.a else s.b⟩
def turnL (l : List St) : List St := (l.reverse).map otherSt
theorem turnL_app (a b : List St) : turnL (a ++ b) = turnL b ++ turnL a := by simp [turnL]
theorem turnL_len (l : List St) : (turnL l).length = l.length := by simp [turnL]
theorem okSt_low {s : St} (h : okSt s = true) (hk : s.k = 2 ∨ s.k = 9) : s.p = false := by
  have h4 := (ok_e h).2.2.2
  have : fsd s.k = false := by rcases hk with e | e <;> rw [e] <;> decide
  rw [this] at h4
  simpa using h4
theorem turnL_cons (s : St) (l : List St) : turnL (s :: l) = turnL l ++ [otherSt s] := by simp [turnL]
theorem turnL_drop {l : List St} {k : Nat} (h : k < l.length) : turnL (l.drop k) = turnL (l.drop (k + 1)) ++ [otherSt (l.getD k st0)] := by
  rw [← turnL_cons]
  congr 1
  rw [List.getD_eq_getElem?_getD, List.getElem?_eq_getElem h]
  exact List.drop_eq_getElem_cons h
end Go.Proofs.YtfbfkoeaihknoaaGreatDoor
/- The reference's Parse of stitches in plain Lean: it reads what Parse reads. -/
namespace Go.Proofs.YtfbfkoeaihknoaaGreatDoor
set_option maxRecDepth 100000
/-- a number of at most four digits, without zeros in front -/
def numS (l : List UInt8) : Option Nat :=
  if l.length = 0 ∨ 4 < l.length ∨ (1 < l.length ∧ l.head? = some 48) then none else if l.all isDg then some (valD l) else none
/-- the kind with a letter, 0 if there is none -/
def kindR (c : UInt8) : Int := if c = 102 then 3 else if c = 108 then 4 else if c = 109 then 5 else if c = 120 then 6 else if c = 121 then 7 else if c = 115 then 8 else if c = 111 then 10 else 0
/-- what the reference reads of the parts behind the letter -/
def refParts (k : Int) (p : Bool) (parts : List (List UInt8)) : Option (List St) :=
  if k = 6 ∨ k = 7 then
    if parts.length = 2 then (numS (parts.getD 1 [])).bind fun b => (numS (parts.getD 0 [])).bind fun a => some [⟨k, p, a, b⟩] else none
  else if k ≠ 0 ∧ parts.length = 1 then (numS (parts.getD 0 [])).bind fun a => some [⟨k, p, a, 0⟩] else none
def refWord : List UInt8 → Option (List St)
  | [] => none
  | c :: rest =>
    if c = 121 ∧ rest = [111] then some [⟨2, false, 0, 0⟩]
    else if 1 < rest.length ∧ c = 111 ∧ rest.head? = some 110 then (numS rest.tail).bind fun a => some [⟨9, false, a, 0⟩]
    else if ¬ (c = 107 ∨ c = 112) then none
    else match rest with
      | [] => some [⟨1, decide (c = 112), 0, 0⟩]
      | d :: r => match numS (d :: r) with
        | some n => if 1 < n then some (List.replicate (min n 300) ⟨1, decide (c = 112), 0, 0⟩) else none
        | none => if kindR d = 8 then (if r = [] then some [⟨8, decide (c = 112), 0, 0⟩] else none) else refParts (kindR d) (decide (c = 112)) (spl 47 r)
def rparseGo : List St → List (List UInt8) → Option (List St)
  | acc, [] => some acc
  | acc, w :: ws => match refWord w with
    | none => none
    | some l => if 200 < (acc ++ l).length then none else rparseGo (acc ++ l) ws
def rparseW (s : List UInt8) : Option (List St) := if s = [] then some [] else rparseGo [] (spl 32 s)
def rparseL (s : List UInt8) : Option (List St) :=
  if 3000 < s.length then none else (rparseW s).bind fun l => if allE l = 0 ∧ textL l = s then some l else none
def rwordOk (s : St) : Bool := decide (refWord (wordT s) = some [s])
theorem rwords_ok : allSt.all rwordOk = true := by decide +kernel
def rrunOk (n : Nat) : Bool := [false, true].all (fun p => decide (refWord (wordG (⟨1, p, 0, 0⟩, n + 2)) = some (List.replicate (n + 2) ⟨1, p, 0, 0⟩)))
theorem rruns_ok : (List.range 199).all rrunOk = true := by decide +kernel
theorem ref_word {s : St} {n : Nat} (h : okSt s = true) (h1 : 1 ≤ n) (h2 : n ≤ 200) (h3 : n = 1 ∨ s.k = 1) : refWord (wordG (s, n)) = some (List.replicate n s) := by
  rcases Nat.lt_or_ge 1 n with hn | hn
  · have hk : s.k = 1 := by rcases h3 with h3 | h3; · omega
                            · exact h3
    obtain ⟨hk1, ha, hb, hp⟩ := ok_e h
    rw [hk] at ha hb
    have ha := inR_e ha
    have hb := inR_e hb
    simp [fa0, fa1, fb0, fb1] at ha hb
    obtain ⟨k, p, a, b⟩ := s
    simp only at hk ha hb
    subst hk
    obtain rfl : a = 0 := by omega
    obtain rfl : b = 0 := by omega
    obtain ⟨m, rfl⟩ : ∃ m, n = m + 2 := ⟨n - 2, by omega⟩
    have h5 := List.all_eq_true.1 rruns_ok m (List.mem_range.2 (by omega))
    have h6 := List.all_eq_true.1 h5 p (by cases p <;> simp)
    exact of_decide_eq_true h6
  · obtain rfl : n = 1 := by omega
    have h5 := List.all_eq_true.1 rwords_ok s (mem_allSt h)
    have e : wordG (s, 1) = wordT s := by simp [wordG]
    rw [e]
    exact of_decide_eq_true h5
theorem rparseGo_words {gs : List (St × Nat)} : ∀ {acc : List St}, (∀ x ∈ gs, refWord (wordG x) = some (List.replicate x.2 x.1)) → acc.length + (gs.map (·.2)).sum ≤ 200 →
    rparseGo acc (gs.map wordG) = some (acc ++ gs.flatMap (fun x => List.replicate x.2 x.1)) := by
  induction gs with
  | nil => intro acc _ _; simp [rparseGo]
  | cons x gs ih =>
    intro acc h hs
    have hf := h x (by simp)
    simp only [List.map_cons, List.sum_cons] at hs
    rw [List.map_cons, rparseGo, hf]
    simp only
    rw [if_neg (by simp; omega)]
    rw [ih (fun y hy => h y (by simp [hy])) (by simp; omega)]
    simp
theorem rparse_text {l : List St} (h : allE l = 0) : rparseL (textL l) = some l := by
  have hs := text_short h
  rw [rparseL, if_neg (by omega)]
  have hw : rparseW (textL l) = some l := by
    rcases List.eq_nil_or_concat l with rfl | ⟨l', x, e⟩
    · rfl
    · have hl : l ≠ [] := by rw [e]; simp
      have hne : textL l ≠ [] := join_ne (by simpa using grp_ne hl) (fun w hw => by
        obtain ⟨x, hx, rfl⟩ := List.mem_map.1 hw
        exact (grp_fine h hx).long)
      obtain ⟨g1, g2, _, _⟩ := allE_e h
      rw [rparseW, if_neg hne, text_spl h hl, rparseGo_words (fun y hy => by
        obtain ⟨m1, m2, m3⟩ := grp_mem hy
        have h4 := le_sum hy
        rw [grp_sum] at h4
        exact ref_word (List.all_eq_true.1 g2 _ m1) m2 (by omega) m3) (by rw [grp_sum]; simp; omega), grp_expand]
      simp
  rw [hw, Option.bind_some, if_pos ⟨h, rfl⟩]
theorem rparse_iff {s : List UInt8} {l : List St} : rparseL s = some l ↔ s.length ≤ 3000 ∧ allE l = 0 ∧ textL l = s := by
  constructor
  · intro h
    unfold rparseL at h
    split at h
    · cases h
    · obtain ⟨l', h1, h2⟩ := Option.bind_eq_some_iff.1 h
      split at h2
      · rename_i h3
        cases h2
        exact ⟨by omega, h3⟩
      · cases h2
  · rintro ⟨h1, h2, rfl⟩
    exact rparse_text h2
/-- both read the same -/
theorem rparse_eq (s : List UInt8) : rparseL s = parseL s := by
  apply Option.ext
  intro l
  rw [rparse_iff, parse_iff]
def othOk (s : St) : Bool := okSt (otherSt s) && decide (otherSt (otherSt s) = s) && decide (usV (otherSt s) = usV s) && decide (mkV (otherSt s) = mkV s)
theorem oths_ok : allSt.all othOk = true := by decide +kernel
theorem other_ok {s : St} (h : okSt s = true) : okSt (otherSt s) = true ∧ otherSt (otherSt s) = s ∧ usV (otherSt s) = usV s ∧ mkV (otherSt s) = mkV s := by
  have h5 := List.all_eq_true.1 oths_ok s (mem_allSt h)
  simp only [othOk, Bool.and_eq_true, decide_eq_true_eq] at h5
  exact ⟨h5.1.1.1, h5.1.1.2, h5.1.2, h5.2⟩
theorem usL_app (a b : List St) : usL (a ++ b) = usL a + usL b := by simp [usL]
theorem mkL_app (a b : List St) : mkL (a ++ b) = mkL a + mkL b := by simp [mkL]
theorem allB_app (a b : List St) : allB (a ++ b) = (allB a && allB b) := by simp [allB]
theorem turn_facts {l : List St} (h : allB l = true) : allB (turnL l) = true ∧ turnL (turnL l) = l ∧ usL (turnL l) = usL l ∧ mkL (turnL l) = mkL l := by
  induction l with
  | nil => exact ⟨rfl, rfl, rfl, rfl⟩
  | cons s l ih =>
    have e : s :: l = [s] ++ l := rfl
    rw [e, allB_app, Bool.and_eq_true] at h
    obtain ⟨i1, i2, i3, i4⟩ := ih h.2
    obtain ⟨o1, o2, o3, o4⟩ := other_ok (s := s) (by simpa [allB] using h.1)
    rw [e, turnL_app, allB_app, turnL_app, i1, i2, usL_app, mkL_app, usL_app, mkL_app, i3, i4]
    have t1 : turnL [s] = [otherSt s] := rfl
    rw [t1]
    refine ⟨by simp [allB, o1], by simp [turnL, o2], ?_, ?_⟩
    · simp only [usL, List.map_cons, List.map_nil, List.sum_cons, List.sum_nil, o3]; omega
    · simp only [mkL, List.map_cons, List.map_nil, List.sum_cons, List.sum_nil, o4]; omega
theorem turn_all {l : List St} (h : allE l = 0) : allE (turnL l) = 0 := by
  obtain ⟨h1, h2, h3, h4⟩ := allE_e h
  obtain ⟨t1, _, t3, t4⟩ := turn_facts h2
  exact allE_ok (by rw [turnL_len]; omega) t1 (by rw [t3, t4]; omega)
theorem sum_nonneg {l : List St} (h : allB l = true) : 0 ≤ usL l ∧ 0 ≤ mkL l := by
  have := sums_bd h l.length (Nat.le_refl _)
  rw [List.take_of_length_le (Nat.le_refl _)] at this
  omega
/-- parts of a valid list are valid -/
theorem part_all {a b : List St} (h : allE (a ++ b) = 0) : allE a = 0 ∧ allE b = 0 := by
  obtain ⟨h1, h2, h3, h4⟩ := allE_e h
  rw [allB_app, Bool.and_eq_true] at h2
  rw [usL_app] at h3
  rw [mkL_app] at h4
  rw [List.length_append] at h1
  have n1 := sum_nonneg h2.1
  have n2 := sum_nonneg h2.2
  exact ⟨allE_ok (by omega) h2.1 (by omega), allE_ok (by omega) h2.2 (by omega)⟩
end Go.Proofs.YtfbfkoeaihknoaaGreatDoor
/- The reference's Parse of terms in plain Lean: it reads what Parse reads. -/
namespace Go.Proofs.YtfbfkoeaihknoaaGreatDoor
set_option maxRecDepth 100000
/-- what stands up to the end of a word or a group, and what is behind -/
def endP : Int → List UInt8 → List UInt8 × List UInt8
  | _, [] => ([], [])
  | o, x :: l =>
    let o2 := o + (if x = 40 then 1 else 0) - (if x = 41 then 1 else 0)
    if o2 < 0 ∨ (o2 = 0 ∧ x = 32) then ([], x :: l) else (x :: (endP o2 l).1, (endP o2 l).2)
/-- the digits at the end of a string, and what is ahead of them -/
def cutD (s : List UInt8) : List UInt8 × List UInt8 := ((s.reverse.dropWhile isDg).reverse, (s.reverse.takeWhile isDg).reverse)
mutual
def rlL : Nat → Nat → Nat → List UInt8 → Option Tms
  | 0, _, _, _ => none
  | f + 1, d, k, s => match rlT f d (endP 0 s).1 with
    | none => none
    | some (n, c, g) => if 200 < k then none else match (endP 0 s).2 with
      | [] => some (.cons n c g .nil)
      | x :: s2 => if x = 32 then (rlL f d (k + 1) s2).map fun r => .cons n c g r else none
def rlT : Nat → Nat → List UInt8 → Option (Int × St × Tms)
  | 0, _, _ => none
  | f + 1, d, s =>
    if (cutD s).1 ≠ [] ∧ (cutD s).2 ≠ [] ∧ (cutD s).1.getLast? = some 42 then match numS (cutD s).2 with
      | none => none
      | some n => if n < 2 then none else rlB f d (n : Int) (cutD s).1.dropLast
    else rlB f d 1 s
def rlB : Nat → Nat → Int → List UInt8 → Option (Int × St × Tms)
  | 0, _, _, _ => none
  | f + 1, d, n, s =>
    if 1 < s.length ∧ s.getD 0 0 = 40 ∧ s.getLast? = some 41 ∧ 0 < d then
      (if (s.drop 1).dropLast = [] then none else (rlL f (d - 1) 0 (s.drop 1).dropLast).map fun g => (n, st0, g))
    else match parseL s with
      | some [c] => some (n, c, .nil)
      | _ => none
end
/-- a string that is passed over -/
def Pass (o : Int) (w : List UInt8) : Prop := ∀ q, endP o (w ++ q) = (w ++ (endP o q).1, (endP o q).2)
theorem Pass.app {o : Int} {a b : List UInt8} (h : Pass o a) (k : Pass o b) : Pass o (a ++ b) := fun q => by
  rw [List.append_assoc, h, k]
  simp
theorem Pass.nil (o : Int) : Pass o [] := fun _ => rfl
theorem Pass.byte {o : Int} {x : UInt8} (h0 : 0 ≤ o) (h1 : x ≠ 32) (h2 : x ≠ 40) (h3 : x ≠ 41) : Pass o [x] := fun q => by
  show endP o (x :: q) = _
  rw [endP]
  simp only [h2, h3, if_false]
  rw [if_neg (by rintro (h | h); omega; exact h1 h.2)]
  simp
theorem Pass.word {o : Int} {w : List UInt8} (h0 : 0 ≤ o) (h : ∀ x ∈ w, x ≠ 32 ∧ x ≠ 40 ∧ x ≠ 41) : Pass o w := by
  induction w with
  | nil => exact Pass.nil o
  | cons x w ih =>
    obtain ⟨h1, h2, h3⟩ := h x (by simp)
    exact Pass.app (a := [x]) (Pass.byte h0 h1 h2 h3) (ih fun y hy => h y (by simp [hy]))
theorem Pass.space {o : Int} (h0 : 1 ≤ o) : Pass o [32] := fun q => by
  show endP o (32 :: q) = _
  rw [endP]
  simp only [show ((32 : UInt8) = 40) = False by simp, show ((32 : UInt8) = 41) = False by simp, if_false]
  rw [if_neg (by rintro (h | h) <;> omega)]
  simp
theorem Pass.grp {o : Int} {w : List UInt8} (h0 : 0 ≤ o) (h : Pass (o + 1) w) : Pass o (40 :: (w ++ [41])) := fun q => by
  show endP o (40 :: (w ++ [41] ++ q)) = _
  rw [endP]
  simp only [show ((40 : UInt8) = 41) = False by simp, if_false, if_true]
  rw [if_neg (by rintro (h | h); omega; exact absurd h.2 (by decide)), Int.sub_zero, List.append_assoc, h]
  have e : endP (o + 1) ([41] ++ q) = (41 :: (endP o q).1, (endP o q).2) := by
    show endP (o + 1) (41 :: q) = _
    rw [endP]
    simp only [show ((41 : UInt8) = 40) = False by simp, if_false, if_true]
    rw [show o + 1 + 0 - 1 = o by omega, if_neg (by rintro (h | h); omega; exact absurd h.2 (by decide))]
  rw [e]
  simp
theorem stop_ne {x : UInt8} (h : isStop x = false) : x ≠ 32 ∧ x ≠ 40 ∧ x ≠ 41 ∧ x ≠ 42 := by
  refine ⟨?_, ?_, ?_, ?_⟩ <;> (rintro rfl; simp [isStop] at h)
theorem times_pass {n : Int} (h : n ≤ 200) {o : Int} (h0 : 0 ≤ o) : Pass o (timesW n) := by
  unfold timesW
  split
  · refine Pass.word h0 fun x hx => ?_
    rcases List.mem_cons.1 hx with rfl | hx
    · decide
    · obtain ⟨h1, h2, h3, _⟩ := stop_ne (dig_ok (by omega) x hx)
      exact ⟨h1, h2, h3⟩
  · exact Pass.nil o
theorem fine_parts {n : Int} {c : St} {g r : Tms} (h : fineT (.cons n c g r) = true) : (1 ≤ n ∧ n ≤ 200) ∧ fineT g = true ∧ fineT r = true ∧ (g = .nil → okSt c = true) ∧ (g ≠ .nil → c = st0) := by
  by_cases hg : g = .nil
  · subst hg
    rw [fine_one] at h
    simp only [Bool.and_eq_true] at h
    exact ⟨inR_e h.1.1, rfl, h.2, fun _ => h.1.2, fun h9 => absurd rfl h9⟩
  · rw [fine_grp _ _ _ _ hg] at h
    simp only [Bool.and_eq_true, decide_eq_true_eq] at h
    exact ⟨inR_e h.1.1.1, h.1.2, h.2, fun h9 => absurd h9 hg, fun _ => h.1.1.2⟩
/-- within a group the whole text is passed over; a term always -/
theorem text_pass : ∀ (M : Nat) (t : Tms), t.size ≤ M → fineT t = true → ∀ o : Int, 1 ≤ o → Pass o (wT t) := by
  intro M
  induction M with
  | zero =>
    intro t h _ o _
    cases t with
    | nil => exact Pass.nil o
    | cons n c g r => simp [Tms.size] at h
  | succ M ih =>
    intro t h hf o ho
    cases t with
    | nil => exact Pass.nil o
    | cons n c g r =>
      simp only [Tms.size] at h
      obtain ⟨hn, hg, hr, hc, _⟩ := fine_parts hf
      have hh : Pass o (headW c g) := by
        by_cases h0 : g = .nil
        · subst h0
          refine Pass.word (w := textL [c]) (by omega) fun x hx => ?_
          obtain ⟨h1, h2, h3, _⟩ := stop_ne ((cell_ok (hc rfl)).2.1 x hx)
          exact ⟨h1, h2, h3⟩
        · rw [head_grp h0]
          exact Pass.grp (by omega) (ih g (by omega) hg (o + 1) (by omega))
      by_cases h0 : r = .nil
      · subst h0
        rw [wT_one]
        exact hh.app (times_pass hn.2 (by omega))
      · rw [wT_cons _ _ _ _ h0]
        exact (hh.app (times_pass hn.2 (by omega))).app (Pass.app (a := [32]) (Pass.space ho) (ih r (by omega) hr o ho))
theorem term_pass {n : Int} {c : St} {g r : Tms} (hf : fineT (.cons n c g r) = true) : Pass 0 (headW c g ++ timesW n) := by
  obtain ⟨hn, hg, hr, hc, _⟩ := fine_parts hf
  refine Pass.app ?_ (times_pass hn.2 (by omega))
  by_cases h0 : g = .nil
  · subst h0
    refine Pass.word (w := textL [c]) (by omega) fun x hx => ?_
    obtain ⟨h1, h2, h3, _⟩ := stop_ne ((cell_ok (hc rfl)).2.1 x hx)
    exact ⟨h1, h2, h3⟩
  · rw [head_grp h0]
    exact Pass.grp (by omega) (text_pass _ g (Nat.le_refl _) hg 1 (by omega))
theorem end_space (q : List UInt8) : endP 0 (32 :: q) = ([], 32 :: q) := by
  rw [endP]
  simp
theorem cutD_all (s : List UInt8) : (cutD s).1 ++ (cutD s).2 = s := by
  unfold cutD
  rw [← List.reverse_append, List.takeWhile_append_dropWhile, List.reverse_reverse]
theorem cutD_at {a d : List UInt8} {x : UInt8} (hx : isDg x = false) (hd : ∀ y ∈ d, isDg y = true) : cutD (a ++ x :: d) = (a ++ [x], d) := by
  unfold cutD
  have e : (a ++ x :: d).reverse = d.reverse ++ (x :: a.reverse) := by simp
  rw [e]
  have h1 : (d.reverse ++ (x :: a.reverse)).takeWhile isDg = d.reverse := by
    rw [List.takeWhile_append_of_pos (by intro y hy; exact hd y (by simpa using hy)), List.takeWhile_cons, hx]
    simp
  have h2 : (d.reverse ++ (x :: a.reverse)).dropWhile isDg = x :: a.reverse := by
    rw [List.dropWhile_append_of_pos (by intro y hy; exact hd y (by simpa using hy)), List.dropWhile_cons, hx]
    simp
  rw [h1, h2]
  simp
def dgOk (n : Nat) : Bool := (decD n).all isDg && decide (numS (decD n) = some n) && !(decD n).isEmpty
theorem dgs_ok : (List.range 201).all dgOk = true := by decide +kernel
theorem dg_ok {n : Nat} (h : n ≤ 200) : (∀ y ∈ decD n, isDg y = true) ∧ numS (decD n) = some n ∧ decD n ≠ [] := by
  have h1 := List.all_eq_true.1 dgs_ok n (List.mem_range.2 (by omega))
  simp only [dgOk, Bool.and_eq_true, decide_eq_true_eq, List.all_eq_true, Bool.not_eq_true', List.isEmpty_eq_false_iff] at h1
  exact ⟨h1.1.1, h1.1.2, h1.2⟩
theorem rlB_cell {f d : Nat} {n : Int} {c : St} (h : okSt c = true) : rlB (f + 1) d n (textL [c]) = some (n, c, .nil) := by
  obtain ⟨h1, h2, h3⟩ := cell_ok h
  obtain ⟨x, r, e, hx⟩ := text_no40 h []
  rw [List.append_nil] at e
  rw [rlB, if_neg, parse_text h1]
  rintro ⟨_, h9, _⟩
  rw [e, List.getD_cons_zero] at h9
  exact (stop_ne hx).2.1 h9
theorem rlB_grp {f d : Nat} {n : Int} {g : Tms} (h0 : wT g ≠ []) (hd : 0 < d) (h : rlL f (d - 1) 0 (wT g) = some g) : rlB (f + 1) d n (40 :: (wT g ++ [41])) = some (n, st0, g) := by
  have e : ((40 :: (wT g ++ [41])).drop 1).dropLast = wT g := by simp
  have hl : (40 :: (wT g ++ [41])).getLast? = some 41 := by
    rw [List.getLast?_cons, List.getLast?_append]
    rfl
  rw [rlB, if_pos ⟨by simp, rfl, hl, hd⟩, e, if_neg h0, h]
  rfl
theorem rlT_text {f d : Nat} {n : Int} {c : St} {g r : Tms} (hf : fineT (.cons n c g r) = true) (hb : ∀ m : Int, rlB f d m (headW c g) = some (m, c, g)) : rlT (f + 1) d (headW c g ++ timesW n) = some (n, c, g) := by
  obtain ⟨hn, hg, hr, hc, _⟩ := fine_parts hf
  unfold timesW
  by_cases h1 : 1 < n
  · rw [if_pos h1]
    obtain ⟨d1, d2, d3⟩ := dg_ok (n := n.toNat) (by omega)
    rw [rlT, cutD_at (by decide) d1, if_pos ⟨by simp, d3, by simp⟩, d2]
    simp only
    rw [if_neg (by omega), List.dropLast_concat, hb]
    have e : ((n.toNat : Nat) : Int) = n := by omega
    rw [e]
  · rw [if_neg h1, List.append_nil]
    have e1 : n = 1 := by omega
    subst e1
    rw [rlT, if_neg, hb]
    rintro ⟨k1, k2, k3⟩
    by_cases h0 : g = .nil
    · subst h0
      have hm : (42 : UInt8) ∈ textL [c] := by
        have h9 := cutD_all (textL [c])
        rw [← h9]
        exact List.mem_append_left _ (List.mem_of_getLast? k3)
      exact (stop_ne ((cell_ok (hc rfl)).2.1 42 hm)).2.2.2 rfl
    · rw [head_grp h0] at k2
      have h9 := cutD_at (a := 40 :: wT g) (d := []) (x := 41) (by decide) (by simp)
      rw [List.cons_append] at h9
      rw [h9] at k2
      exact k2 rfl
/-- what is written is read -/
theorem cnt_sizeV : ∀ (t : Tms), t.cnt ≤ t.size := by
  intro t
  induction t with
  | nil => exact Nat.le_refl _
  | cons n c g r _ ih2 => simp only [Tms.cnt, Tms.size]; omega
theorem rl_text : ∀ (M : Nat) (t : Tms), M ≤ 200 → t.size ≤ M → t ≠ .nil → fineT t = true → ∀ (d f k : Nat), t.depth ≤ d + 1 → 3 * t.size ≤ f → k + t.cnt ≤ 201 → rlL f d k (wT t) = some t := by
  intro M
  induction M with
  | zero =>
    intro t _ h h0
    have := size_pos h0
    omega
  | succ M ih =>
    intro t hM hs h0 hf d f k hd hfl hk
    cases t with
    | nil => exact absurd rfl h0
    | cons n c g r =>
      simp only [Tms.size] at hs hfl
      simp only [Tms.depth] at hd
      simp only [Tms.cnt] at hk
      obtain ⟨f, rfl⟩ : ∃ j, f = j + 3 := ⟨f - 3, by omega⟩
      obtain ⟨hn, hg, hr, hc, hc0⟩ := fine_parts hf
      have hT : rlT (f + 2) d (headW c g ++ timesW n) = some (n, c, g) := by
        refine rlT_text hf fun m => ?_
        by_cases hg0 : g = .nil
        · subst hg0
          exact rlB_cell (hc rfl)
        · rw [head_grp hg0, hc0 hg0]
          have hgd : 1 ≤ g.depth := by
            cases g with
            | nil => exact absurd rfl hg0
            | cons => simp [Tms.depth]; omega
          refine rlB_grp (wT_ne hg hg0) (by omega) (ih g (by omega) (by omega) hg0 hg (d - 1) f 0 (by omega) (by omega) (by have := cnt_sizeV g; omega))
      by_cases hr0 : r = .nil
      · subst hr0
        have hp := term_pass hf []
        rw [List.append_nil] at hp
        have e0 : endP 0 [] = ([], []) := rfl
        rw [e0, List.append_nil] at hp
        rw [wT_one, rlL, hp, hT]
        simp only
        rw [if_neg (by omega)]
      · have hp := term_pass hf (32 :: wT r)
        rw [end_space, List.append_nil] at hp
        rw [wT_cons _ _ _ _ hr0, rlL, hp, hT]
        simp only
        rw [if_neg (by omega), if_pos trivial, ih r (by omega) (by omega) hr0 hr d (f + 2) (k + 1) (by omega) (by omega) (by omega)]
        rfl
/-- what the reference's Parse returns -/
def rparseT (s : List UInt8) : Option Tms := if 3000 < s.length then none else
  (if s = [] then some Tms.nil else rlL (3 * s.length + 3) 8 0 s).bind fun t => if tchkE t = 0 ∧ wT t = s then some t else none
theorem rparseT_iff {s : List UInt8} {t : Tms} : rparseT s = some t ↔ s.length ≤ 3000 ∧ tchkE t = 0 ∧ wT t = s := by
  constructor
  · intro h
    unfold rparseT at h
    split at h
    · cases h
    · obtain ⟨t', _, h3⟩ := Option.bind_eq_some_iff.1 h
      split at h3
      · rename_i h4
        cases h3
        exact ⟨by omega, h4⟩
      · cases h3
  · rintro ⟨h1, h2, rfl⟩
    rw [rparseT, if_neg (by omega)]
    obtain ⟨g1, g2, g3⟩ := tchk_parts h2
    by_cases h0 : t = .nil
    · subst h0
      rw [if_pos (show wT Tms.nil = [] from rfl), Option.bind_some, if_pos ⟨h2, rfl⟩]
    · have hl := wT_len g3
      have hc := cnt_sizeV t
      rw [if_neg (wT_ne g3 h0), rl_text 200 t (Nat.le_refl _) g1 h0 g3 8 _ 0 (by omega) (by omega) (by omega), Option.bind_some, if_pos ⟨h2, rfl⟩]
/-- both read the same -/
theorem rparseT_eq {at_ : List UInt8 → Option Int} (hat : ∀ k : Nat, 2 ≤ k → k ≤ 200 → at_ (decD k) = some (k : Int)) (s : List UInt8) : rparseT s = parseT at_ s := by
  apply Option.ext
  intro t
  rw [rparseT_iff, parseT_iff hat]
end Go.Proofs.YtfbfkoeaihknoaaGreatDoor
/- The frame of a law's row: what it returns is true, and what was in memory before the call reads as it did. -/
namespace Go.Proofs.YtfbfkoeaihknoaaGreatDoor
set_option maxRecDepth 100000
open Go.ChangeShapes Go.WideShapes Go.ChangeAt Go.RowKit

theorem laid_out : laidOutB Tryz.prog = true := by kernel_rfl
theorem own : ownKnob Tryz.prog.godebug = none := by kernel_rfl

section
variable {H : Type} {enc : TypeId × Value → H} {P : Program}
theorem trodAll_stays (hl : laidOutB P = true) {W W' : World} (hb : Below W.heap.size W W') {sp : Nat → Bool} :
    ∀ {ts : List TypeId} {vs : List Value} {ds : List (DataW H)} {ps : List MemPlace}, (∀ t ∈ ts, P.readableRec t = true ∧ t < P.types.size) →
      DataW.TrodAll enc P W 0 (fun _ => true) true ts vs ds ps → (∀ x ∈ ps, x.block < W.heap.size) → (∀ x ∈ ps, sp x.block = true) → DataW.TrodAll enc P W' 0 sp true ts vs ds ps := by
  intro ts
  induction ts with
  | nil =>
    intro vs ds ps _ h _ _
    obtain ⟨rfl, rfl, rfl⟩ := trodAll_nil h
    exact trodAll_mk0
  | cons t ts ih =>
    intro vs ds ps hr h hlt hsp
    obtain ⟨v, vs', d, ds', p, q, rfl, rfl, rfl, h1, h2⟩ := trodAll_cons h
    obtain ⟨hr1, hr2⟩ := hr t (by simp)
    refine trodAll_cons_mk (WideElems.Trod_stays hl hr1 hr2 h1 (fun x hx => hb.same (hlt x (by simp [hx]))) (fun x hx => hsp x (by simp [hx]))) ?_
    exact ih (fun t ht => hr t (by simp [ht])) h2 (fun x hx => hlt x (by simp [hx])) (fun x hx => hsp x (by simp [hx]))

theorem post_of_below {f : Func} {s : ChangeSpec} {apart fresh handsOn again : Bool} {W W' : World} {args : Array Value} {v : Value} {ds gs : List (DataW H)} {before pa pv : List MemPlace}
    (hW : DataW.Whole enc P f.params.toList s.vars apart W args.toList ds gs before)
    (hres : ∀ (b : Nat) (sp : Nat → Bool) (hd : Bool), DataW.TrodAll enc P W' b sp hd f.resultTypes.toList (v.resultList f.resultTypes.size) (s.fn H (ds ++ gs)).results [])
    (hargs : ∀ sp : Nat → Bool, (∀ p ∈ before, sp p.block = true) → DataW.TrodAll enc P W' 0 sp true f.params.toList args.toList (s.fn H (ds ++ gs)).args pa)
    (hvars : ∀ sp : Nat → Bool, (∀ p ∈ before, sp p.block = true) → DataW.TrodVars enc P W' sp s.vars (s.fn H (ds ++ gs)).vars pv)
    (hps : before = pa ++ pv) (hb : Below W.heap.size W W')
    (hok : ∀ (j : Nat) (t : TypeId) (r : Value), f.resultTypes[j]? = some t → (v.resultList f.resultTypes.size)[j]? = some r → Value.okWide P W' .any 0 t r) :
    s.post enc P f apart fresh handsOn again W args v W' := by
  have hlt : ∀ p ∈ before, p.block < W.heap.size := fun p hp => hW.lt p hp
  have hold : ∀ p ∈ before, (fun b => decide (b < W.heap.size)) p.block = true := fun p hp => by simpa using hlt p hp
  refine ⟨ds, gs, before, [], pa, pv, hW, hres _ _ _, hargs _ hold, hvars _ hold, World.keptBut_mono (fun p hp => ⟨hp, ?_⟩) (hb.frame (· ∈ before)), fun _ => ?_⟩
  · rw [hps, List.mem_append] at hp
    exact Or.inr hp
  · obtain ⟨_, _, _, _, _, hz, hn⟩ := hW
    refine ⟨hok, _, _, ([] ++ pa) ++ pv, ⟨[] ++ pa, pv, trodAll_append (hargs _ (fun _ _ => rfl)) (hres _ _ _), hvars _ (fun _ _ => rfl), rfl, ?_, ?_⟩, ?_⟩
    · intro b off hp
      have hin : MemPlace.cell b off ∈ before := by rw [hps]; simpa using hp
      rw [hb.frozen (hlt _ hin)]
      exact hz b off hin
    · intro ha
      have := hn ha
      rw [hps] at this
      simpa using this
    · intro p hp _
      rw [hps]
      simpa using hp

/-- the step that all laws share: a call that returned true and left what was there meets the row -/
theorem law_post {f : Func} {s : ChangeSpec} {apart fresh handsOn again : Bool} {tb : TypeId} (hl : laidOutB P = true) (hf : f.resultTypes = #[tb]) (hu : P.underlying tb = some .bool)
    (hr : f.params.toList.all (fun t => P.readableRec t && decide (t < P.types.size)) = true) (hs0 : s.vars = [])
    {W W' : World} {args : Array Value} {ds gs : List (DataW H)} {before : List MemPlace} (hW : DataW.Whole enc P f.params.toList s.vars apart W args.toList ds gs before)
    (hs : s.fn H (ds ++ gs) = { results := [.lit (.bool true)], args := ds }) (hb : Ext W W') : s.post enc P f apart fresh handsOn again W args (.bool true) W' := by
  have hlt : ∀ p ∈ before, p.block < W.heap.size := fun p hp => hW.lt p hp
  have hW0 := hW
  obtain ⟨p, q, hA, hV, hpq, _, _⟩ := hW
  rw [hs0] at hV
  obtain ⟨rfl, rfl⟩ := trodVars_none hV
  have hpq' : before = p := by rw [hpq]; simp
  subst hpq'
  refine post_of_below (pa := before) (pv := []) hW0 (fun b sp hd => ?_) (fun sp hsp => ?_) (fun sp hsp => ?_) (by simp) hb (fun j t r h1 h2 => ?_)
  · rw [hs, hf]
    exact trodAll_mk1 (shut_bool hu true)
  · rw [hs]
    refine trodAll_stays hl hb (fun t ht => ?_) hA hlt hsp
    have := List.all_eq_true.1 hr t ht
    simpa using this
  · rw [hs, hs0]
    rfl
  · rw [hf] at h1 h2
    match j, h1, h2 with
    | 0, h1, h2 =>
      obtain rfl : tb = t := by simpa using h1
      obtain rfl : Value.bool true = r := by simpa [Value.resultList] using h2
      exact okWide_bool_mk hu true
end
end Go.Proofs.YtfbfkoeaihknoaaGreatDoor
