/- Grams: the program's and the reference's. -/
import Derived.Test.YtfhecgipfhhchaaPtR
namespace Go.Proofs.Ytfhecgipfhhchaa
set_option maxRecDepth 100000
set_option maxRecDepth 100000
open Go.RowKit Go.ChangeShapes Go.WideShapes Go.Joins
theorem first_all {se : List Sec} : ∀ (n k : Nat), firstE se n k = 0 → ∀ j, k ≤ j → j < k + n → chkC (se.getD j sec0).s (se.getD j sec0).rows = 0 := by
  intro n
  induction n with
  | zero => intro k _ j h1 h2; omega
  | succ n ih =>
    intro k h j h1 h2
    by_cases h0 : chkC (se.getD k sec0).s (se.getD k sec0).rows = 0
    · by_cases e : j = k
      · subst e; exact h0
      · exact ih (k + 1) (by rw [← first_ok h0]; exact h) j (by omega) (by omega)
    · rw [first_bad h0] at h
      exact absurd h h0
theorem pat_ok {nm : List UInt8} {ge : Int} {st : List Stf} {se : List Sec} (h : patE nm ge st se = 0) : gramB st st.length = true ∧ st.length ≤ 20 ∧ ∀ j, j < se.length → chkC (se.getD j sec0).s (se.getD j sec0).rows = 0 := by
  unfold patE at h
  split at h
  · cases h
  · rename_i h1
    split at h
    · rename_i h2
      split at h
      · cases h
      · refine ⟨?_, by omega, fun j hj => first_all _ _ h j (Nat.zero_le _) (by omega)⟩
        unfold fineP at h2
        simp only [Bool.and_eq_true] at h2
        exact h2.2
    · cases h
theorem gram_le {st : List Stf} {n : Nat} (h : gramB st n = true) {k : Nat} (hk : k ≤ n) : gramB st k = true := by
  unfold gramB at h ⊢
  rw [List.all_eq_true] at h ⊢
  intro x hx
  exact h x (List.mem_range.2 (Nat.lt_of_lt_of_le (List.mem_range.1 hx) hk))
/-- what Grams returns -/
def GrmR (nm : List UInt8) (ge : Int) (st : List Stf) (se : List Sec) (w : World) (e : Ending) (w' : World) : Prop :=
  e = .returned (.tuple #[.int .i64 (if patE nm ge st se = 0 then gramS st st.length else 0), .int .i64 (patE nm ge st se)]) ∧ Ext w w'
theorem GrmR.no {nm : List UInt8} {ge x : Int} {st : List Stf} {se : List Sec} {w w' : World} (h : patE nm ge st se = x) (h0 : x ≠ 0) (hb : Ext w w') : GrmR nm ge st se w (.returned (.tuple #[.int .i64 0, .int .i64 x])) w' := by
  refine ⟨?_, hb⟩
  rw [h, if_neg h0]
theorem GrmR.yes {nm : List UInt8} {ge x : Int} {st : List Stf} {se : List Sec} {w w' : World} (h : patE nm ge st se = 0) (hx : gramS st st.length = x) (hb : Ext w w') : GrmR nm ge st se w (.returned (.tuple #[.int .i64 x, .int .i64 0])) w' := by
  refine ⟨?_, hb⟩
  rw [h, if_pos rfl, hx]
set_option maxHeartbeats 8000000 in
theorem pgrams_any (nm : List UInt8) (g1 g2 g3 g4 : Int) (As : Option Addr) (ns cs : Nat) (st : List Stf) (Ac : Option Addr) (nc cc : Nat) (se : List Sec) (w : World) (hs : Vec shStf w As ns st) (hc : Secs w Ac nc se)
    (hnl : nm.length ≤ 100) (hsl : ∀ i, i < ns → (stN st i).length ≤ 100) (hcl : ∀ i, i < nc → (seN se i).length ≤ 100) (hn1 : ns ≤ 30) (hn2 : nc ≤ 30) :
    Calls Try.prog 7 #[.agg #[.string ⟨nm.toArray⟩, .int .i64 g1, .int .i64 g2, .int .i64 g3, .int .i64 g4, .slice As ns cs, .slice Ac nc cc]] w (GrmR nm (gerr g1 g2 g3 g4) st se w) := by
  have HLS := Lib.hid hs.1
  have HSV := Lib.hid hs
  have HCV := Lib.hid hc
  have HBX := Lib.hid (BoxP.start w nm g1 g2 g3 g4 As ns cs Ac nc cc)
  have HW0 := Lib.hid (show Ext w (w.alloc (.cells #[.string ⟨nm.toArray⟩, .int .i64 g1, .int .i64 g2, .int .i64 g3, .int .i64 g4, .slice As ns cs, .slice Ac nc cc] 27)) from (Ext.refl w).alloc _)
  have HCK := Lib.hid (fun (w' : World) (hx : Ext (w.alloc (.cells #[.string ⟨nm.toArray⟩, .int .i64 g1, .int .i64 g2, .int .i64 g3, .int .i64 g4, .slice As ns cs, .slice Ac nc cc] 27)) w') => pcheck_any nm g1 g2 g3 g4 As ns cs st Ac nc cc se w' (HSV.out.ext (HW0.out.trans hx)) (HCV.out.ext (HW0.out.trans hx)) hnl hsl hcl hn1 hn2)
  obtain ⟨R, hR⟩ : ∃ R, patE nm (gerr g1 g2 g3 g4) st se = R := ⟨_, rfl⟩
  have HR := Lib.hid hR
  rw [hR] at HCK
  clear hs hc hsl hcl hR
  by_cases h0 : R = 0
  case neg =>
    have HN := Lib.hid h0
    have p7 : (R != 0) = true := by simpa using h0
    clear h0
    go_enter Try.func7, Try.ntmps7
    go_wp2_with (first
      | (go_at_call 9; go_loud ((with_reducible refine (HCK.out _ (by repeat (first | exact Ext.refl _ | assumption | refine Ext.alloc ?_ _ | refine Ext.drew ?_ | refine Ext.drewN ?_ _ | refine Ext.trans ?_ (by assumption)))).mono ?_); rintro e w3 ⟨rfl, hq3⟩; obtain ⟨x0, x1, x2, x3, x4, x5, x6, xz⟩ := (HBX.out.ext (by repeat (first | exact Ext.refl _ | assumption | refine Ext.alloc ?_ _ | refine Ext.drew ?_ | refine Ext.drewN ?_ _ | refine Ext.trans ?_ (by assumption)) : Ext _ w3)).facts)))
    go_ret2
    exact GrmR.no HR.out HN.out (HW0.out.trans (by repeat (first | exact Ext.refl _ | assumption | refine Ext.alloc ?_ _ | refine Ext.drew ?_ | refine Ext.drewN ?_ _ | refine Ext.trans ?_ (by assumption))))
  subst h0
  have HP := Lib.hid (pat_ok HR.out)
  go_enter Try.func7, Try.ntmps7
  go_wp2_with (first
    | (go_at_call 9; go_loud ((with_reducible refine (HCK.out _ (by repeat (first | exact Ext.refl _ | assumption | refine Ext.alloc ?_ _ | refine Ext.drew ?_ | refine Ext.drewN ?_ _ | refine Ext.trans ?_ (by assumption)))).mono ?_); rintro e w3 ⟨rfl, hq3⟩; obtain ⟨x0, x1, x2, x3, x4, x5, x6, xz⟩ := (HBX.out.ext (by repeat (first | exact Ext.refl _ | assumption | refine Ext.alloc ?_ _ | refine Ext.drew ?_ | refine Ext.drewN ?_ _ | refine Ext.trans ?_ (by assumption)) : Ext _ w3)).facts)))
  go_loopw [5, 16] (fun u v wr => ∃ k : Nat, v = .int .i64 (k : Int) ∧ u = .int .i64 (gramS st k) ∧ k ≤ ns ∧ Hid (Ext (w.alloc (.cells #[.string ⟨nm.toArray⟩, .int .i64 g1, .int .i64 g2, .int .i64 g3, .int .i64 g4, .slice As ns cs, .slice Ac nc cc] 27)) wr)) (fun u v _ => ns - (intOf v).toNat)
  case atStart => exact ⟨0, rfl, rfl, Nat.zero_le _, Lib.hid (by repeat (first | exact Ext.refl _ | assumption | refine Ext.alloc ?_ _ | refine Ext.drew ?_ | refine Ext.drewN ?_ _ | refine Ext.trans ?_ (by assumption)))⟩
  case round =>
    obtain ⟨k, rfl, rfl, hk, HE⟩ := hrel
    obtain ⟨wa, rfl⟩ : ∃ wa : World, wa = wr := ⟨_, rfl⟩
    obtain ⟨x0, x1, x2, x3, x4, x5, x6, xz⟩ := (HBX.out.ext HE.out).facts
    have q0 : (0 : Int) ≤ (k : Int) := by omega
    by_cases hlt : k < ns
    · have q1 : (k : Int) < (ns : Int) := by omega
      have hg1 := gramS_bd k (gram_le HP.out.1 (by rw [HLS.out]; omega))
      have hg2 := gram_le HP.out.1 (k := k + 1) (by rw [HLS.out]; omega)
      rw [gram_succ, Bool.and_eq_true, decide_eq_true_eq] at hg2
      have hg3 := hg2.2
      obtain ⟨b', off, rfl, hb', c0, c1⟩ := Stf.at_ (HSV.out.ext (HW0.out.trans HE.out)) hlt
      generalize stN st k = Y at c0
      have HGS := Lib.hid (show gramS st (k + 1) = gramS st k + (st.getD k stf0).g from rfl)
      generalize (st.getD k stf0).g = gk at *
      generalize gramS st k = G at *
      have i1 := IntWalk.i64_in (G + gk) (by omega)
      clear hg2
      go_wp2_with fail
      go_roundw
      case rel => exact ⟨k + 1, by go_num, by rw [HGS.out], by omega, Lib.hid (HE.out.trans (by repeat (first | exact Ext.refl _ | assumption | refine Ext.alloc ?_ _ | refine Ext.drew ?_ | refine Ext.drewN ?_ _ | refine Ext.trans ?_ (by assumption))))⟩
      case measure => simp [intOf] <;> omega
    · obtain rfl : ns = k := by omega
      go_wp2_with fail
      go_ret2
      exact GrmR.yes HR.out (by rw [HLS.out]) (HW0.out.trans HE.out)
set_option maxHeartbeats 8000000 in
theorem rpgrams_any (nm : List UInt8) (g1 g2 g3 g4 : Int) (As : Option Addr) (ns cs : Nat) (st : List Stf) (Ac : Option Addr) (nc cc : Nat) (se : List Sec) (w : World) (hs : Vec shStf w As ns st) (hc : Secs w Ac nc se)
    (hnl : nm.length ≤ 100) (hsl : ∀ i, i < ns → (stN st i).length ≤ 100) (hcl : ∀ i, i < nc → (seN se i).length ≤ 100) (hn1 : ns ≤ 30) (hn2 : nc ≤ 30) :
    Calls Try.prog 8 #[.agg #[.string ⟨nm.toArray⟩, .int .i64 g1, .int .i64 g2, .int .i64 g3, .int .i64 g4, .slice As ns cs, .slice Ac nc cc]] w (GrmR nm (gerr g1 g2 g3 g4) st se w) := by
  have HLS := Lib.hid hs.1
  have HSV := Lib.hid hs
  have HCV := Lib.hid hc
  have HBX := Lib.hid (BoxP.start w nm g1 g2 g3 g4 As ns cs Ac nc cc)
  have HW0 := Lib.hid (show Ext w (w.alloc (.cells #[.string ⟨nm.toArray⟩, .int .i64 g1, .int .i64 g2, .int .i64 g3, .int .i64 g4, .slice As ns cs, .slice Ac nc cc] 27)) from (Ext.refl w).alloc _)
  have HCK := Lib.hid (fun (w' : World) (hx : Ext (w.alloc (.cells #[.string ⟨nm.toArray⟩, .int .i64 g1, .int .i64 g2, .int .i64 g3, .int .i64 g4, .slice As ns cs, .slice Ac nc cc] 27)) w') => rpcheck_any nm g1 g2 g3 g4 As ns cs st Ac nc cc se w' (HSV.out.ext (HW0.out.trans hx)) (HCV.out.ext (HW0.out.trans hx)) hnl hsl hcl hn1 hn2)
  obtain ⟨R, hR⟩ : ∃ R, patE nm (gerr g1 g2 g3 g4) st se = R := ⟨_, rfl⟩
  have HR := Lib.hid hR
  rw [hR] at HCK
  clear hs hc hsl hcl hR
  by_cases h0 : R = 0
  case neg =>
    have HN := Lib.hid h0
    have p7 : (R != 0) = true := by simpa using h0
    clear h0
    go_enter Try.func8, Try.ntmps8
    go_wp2_with (first
      | (go_at_call 10; go_loud ((with_reducible refine (HCK.out _ (by repeat (first | exact Ext.refl _ | assumption | refine Ext.alloc ?_ _ | refine Ext.drew ?_ | refine Ext.drewN ?_ _ | refine Ext.trans ?_ (by assumption)))).mono ?_); rintro e w3 ⟨rfl, hq3⟩; obtain ⟨x0, x1, x2, x3, x4, x5, x6, xz⟩ := (HBX.out.ext (by repeat (first | exact Ext.refl _ | assumption | refine Ext.alloc ?_ _ | refine Ext.drew ?_ | refine Ext.drewN ?_ _ | refine Ext.trans ?_ (by assumption)) : Ext _ w3)).facts)))
    go_ret2
    exact GrmR.no HR.out HN.out (HW0.out.trans (by repeat (first | exact Ext.refl _ | assumption | refine Ext.alloc ?_ _ | refine Ext.drew ?_ | refine Ext.drewN ?_ _ | refine Ext.trans ?_ (by assumption))))
  subst h0
  have HP := Lib.hid (pat_ok HR.out)
  go_enter Try.func8, Try.ntmps8
  go_wp2_with (first
    | (go_at_call 10; go_loud ((with_reducible refine (HCK.out _ (by repeat (first | exact Ext.refl _ | assumption | refine Ext.alloc ?_ _ | refine Ext.drew ?_ | refine Ext.drewN ?_ _ | refine Ext.trans ?_ (by assumption)))).mono ?_); rintro e w3 ⟨rfl, hq3⟩; obtain ⟨x0, x1, x2, x3, x4, x5, x6, xz⟩ := (HBX.out.ext (by repeat (first | exact Ext.refl _ | assumption | refine Ext.alloc ?_ _ | refine Ext.drew ?_ | refine Ext.drewN ?_ _ | refine Ext.trans ?_ (by assumption)) : Ext _ w3)).facts)))
  go_loopw [5, 6] (fun u v wr => ∃ k : Nat, v = .int .i64 (k : Int) ∧ u = .int .i64 (gramS st k) ∧ k ≤ ns ∧ Hid (Ext (w.alloc (.cells #[.string ⟨nm.toArray⟩, .int .i64 g1, .int .i64 g2, .int .i64 g3, .int .i64 g4, .slice As ns cs, .slice Ac nc cc] 27)) wr)) (fun u v _ => ns - (intOf v).toNat)
  case atStart => exact ⟨0, rfl, rfl, Nat.zero_le _, Lib.hid (by repeat (first | exact Ext.refl _ | assumption | refine Ext.alloc ?_ _ | refine Ext.drew ?_ | refine Ext.drewN ?_ _ | refine Ext.trans ?_ (by assumption)))⟩
  case round =>
    obtain ⟨k, rfl, rfl, hk, HE⟩ := hrel
    obtain ⟨wa, rfl⟩ : ∃ wa : World, wa = wr := ⟨_, rfl⟩
    obtain ⟨x0, x1, x2, x3, x4, x5, x6, xz⟩ := (HBX.out.ext HE.out).facts
    have q0 : (0 : Int) ≤ (k : Int) := by omega
    by_cases hlt : k < ns
    · have q1 : (k : Int) < (ns : Int) := by omega
      have hg1 := gramS_bd k (gram_le HP.out.1 (by rw [HLS.out]; omega))
      have hg2 := gram_le HP.out.1 (k := k + 1) (by rw [HLS.out]; omega)
      rw [gram_succ, Bool.and_eq_true, decide_eq_true_eq] at hg2
      have hg3 := hg2.2
      obtain ⟨b', off, rfl, hb', c0, c1⟩ := Stf.at_ (HSV.out.ext (HW0.out.trans HE.out)) hlt
      generalize stN st k = Y at c0
      have HGS := Lib.hid (show gramS st (k + 1) = gramS st k + (st.getD k stf0).g from rfl)
      generalize (st.getD k stf0).g = gk at *
      generalize gramS st k = G at *
      have i1 := IntWalk.i64_in (G + gk) (by omega)
      clear hg2
      go_wp2_with fail
      go_roundw
      case rel => exact ⟨k + 1, by go_num, by rw [HGS.out], by omega, Lib.hid (HE.out.trans (by repeat (first | exact Ext.refl _ | assumption | refine Ext.alloc ?_ _ | refine Ext.drew ?_ | refine Ext.drewN ?_ _ | refine Ext.trans ?_ (by assumption))))⟩
      case measure => simp [intOf] <;> omega
    · obtain rfl : ns = k := by omega
      go_wp2_with fail
      go_ret2
      exact GrmR.yes HR.out (by rw [HLS.out]) (HW0.out.trans HE.out)
end Go.Proofs.Ytfhecgipfhhchaa
