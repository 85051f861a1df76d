/- Join, Marked, Check and Shares return what the reference returns, for any numbers, marks and lists of at most 3,000. -/
import Derived.Test.YtepegahgiciegaaSeamD
import Derived.Test.YtepegahgiciegaaOpenInts
import Derived.Test.YtepegahgiciegaaOpenGauge
namespace Go.Proofs.Ytepegahgiciegaa
open Go.ChangeShapes Go.WideShapes Go.ChangeAt Go.RowKit Go.Joins

theorem joinL_len (a b : Int) : (joinL a b).length ≤ maxLen := by
  unfold joinL maxLen; split
  · rename_i h
    have := edOk_e h
    rw [secL_len]; omega
  · simp
theorem mkdL_len (a b : Int) (am bm : List Int) : (mkdL a b am bm).length ≤ maxLen := by
  unfold mkdL maxLen; split
  · rename_i h
    have := mkdN_len h (am.length + 1) (Nat.le_refl _)
    have := mkE_e h
    omega
  · simp
theorem shXL_len (l : List (Int × Int)) (a b : Int) : (shXL l a b).length ≤ maxLen := by
  unfold shXL maxLen; split
  · rename_i h
    have := chk_e h
    rw [List.length_map, List.length_range]; omega
  · simp
theorem shYL_len (l : List (Int × Int)) (a b : Int) : (shYL l a b).length ≤ maxLen := by
  unfold shYL maxLen; split
  · rename_i h
    have := chk_e h
    rw [List.length_map, List.length_range]; omega
  · simp
set_option maxRecDepth 100000 in
set_option maxHeartbeats 4000000 in
theorem seamJoins_walk (a b : Int) (na ca : Nat) (Aa : Option Addr) (am : List Int) (w : World) (ha : Ints w Aa na am) (hma : na ≤ maxLen) (nb cb : Nat) (Ab : Option Addr) (bm : List Int) (hb : Ints w Ab nb bm) (hmb : nb ≤ maxLen)
    (nl cl : Nat) (Al : Option Addr) (l : List (Int × Int)) (hl : Vec shPair w Al nl l) (hml : nl ≤ maxLen) :
    Calls Try.prog 4 #[.int .i64 a, .int .i64 b, .slice Aa na ca, .slice Ab nb cb, .slice Al nl cl] w fun e w' => e = .returned (.bool true) ∧ Ext w w' := by
  have HA := Lib.hid ha
  have HB := Lib.hid hb
  have HL := Lib.hid hl
  have HLN7 := Lib.hid (joinL_len a b)
  have HLN8 := Lib.hid (mkdL_len a b am bm)
  have HLN9 := Lib.hid (shXL_len l a b)
  have HLN10 := Lib.hid (shYL_len l a b)
  have hm3 : (na : Int) ≤ 9223372036854775807 ∧ (nb : Int) ≤ 9223372036854775807 ∧ (nl : Int) ≤ 9223372036854775807 := by unfold maxLen at hma hmb hml; omega
  obtain ⟨hm4, hm5, hm6⟩ := hm3
  clear ha hb hl hma hmb hml
  by_cases h1 : 3000 < na
  · go_enter Try.func4, Try.ntmps4
    go_wp2
    go_ret
    exact ⟨rfl, by repeat (first | exact Ext.refl _ | assumption | refine Ext.alloc ?_ _ | refine Ext.drew ?_ | refine Ext.drewN ?_ _ | refine Ext.trans ?_ (by assumption))⟩
  by_cases h2 : 3000 < nb
  · go_enter Try.func4, Try.ntmps4
    go_wp2
    go_ret
    exact ⟨rfl, by repeat (first | exact Ext.refl _ | assumption | refine Ext.alloc ?_ _ | refine Ext.drew ?_ | refine Ext.drewN ?_ _ | refine Ext.trans ?_ (by assumption))⟩
  by_cases h3 : 3000 < nl
  · go_enter Try.func4, Try.ntmps4
    go_wp2
    go_ret
    exact ⟨rfl, by repeat (first | exact Ext.refl _ | assumption | refine Ext.alloc ?_ _ | refine Ext.drew ?_ | refine Ext.drewN ?_ _ | refine Ext.trans ?_ (by assumption))⟩
  go_enter Try.func4, Try.ntmps4
  go_wp2_with (first | (go_at_call 17; ((with_reducible refine (join_any _ _ _).mono ?_); rintro e w1 ⟨A1, c1, rfl, hv1, hq1⟩)) | (go_at_call 18; ((with_reducible refine (rjoin_any _ _ _).mono ?_); rintro e w2 ⟨A2, c2, rfl, hv2, hq2⟩)) | (go_at_call 19; ((with_reducible refine (marked_any _ _ _ _ _ _ _ _ am bm _ ?_ ?_ ?_ ?_).mono ?_); (focus (refine Ints.ext HA.out ?_; repeat (first | exact Ext.refl _ | assumption | refine Ext.alloc ?_ _ | refine Ext.drew ?_ | refine Ext.drewN ?_ _ | refine Ext.trans ?_ (by assumption)))); (focus (refine Ints.ext HB.out ?_; repeat (first | exact Ext.refl _ | assumption | refine Ext.alloc ?_ _ | refine Ext.drew ?_ | refine Ext.drewN ?_ _ | refine Ext.trans ?_ (by assumption)))); (focus (unfold maxLen; omega)); (focus (unfold maxLen; omega)); rintro e w3 ⟨A3, c3, rfl, hv3, hq3⟩)) | (go_at_call 20; ((with_reducible refine (rmarked_any _ _ _ _ _ _ _ _ am bm _ ?_ ?_ ?_ ?_).mono ?_); (focus (refine Ints.ext HA.out ?_; repeat (first | exact Ext.refl _ | assumption | refine Ext.alloc ?_ _ | refine Ext.drew ?_ | refine Ext.drewN ?_ _ | refine Ext.trans ?_ (by assumption)))); (focus (refine Ints.ext HB.out ?_; repeat (first | exact Ext.refl _ | assumption | refine Ext.alloc ?_ _ | refine Ext.drew ?_ | refine Ext.drewN ?_ _ | refine Ext.trans ?_ (by assumption)))); (focus (unfold maxLen; omega)); (focus (unfold maxLen; omega)); rintro e w4 ⟨A4, c4, rfl, hv4, hq4⟩)) | (go_at_call 21; ((with_reducible refine (shares_any _ _ _ l _ _ _ ?_ ?_).mono ?_); (focus (refine Vec.ext HL.out ?_; repeat (first | exact Ext.refl _ | assumption | refine Ext.alloc ?_ _ | refine Ext.drew ?_ | refine Ext.drewN ?_ _ | refine Ext.trans ?_ (by assumption)))); (focus (unfold maxLen; omega)); rintro e w5 ⟨A5, c5, B5, d5, rfl, hx5, hy5, hq5⟩)) | (go_at_call 22; ((with_reducible refine (rshares_any _ _ _ l _ _ _ ?_ ?_).mono ?_); (focus (refine Vec.ext HL.out ?_; repeat (first | exact Ext.refl _ | assumption | refine Ext.alloc ?_ _ | refine Ext.drew ?_ | refine Ext.drewN ?_ _ | refine Ext.trans ?_ (by assumption)))); (focus (unfold maxLen; omega)); rintro e w6 ⟨A6, c6, B6, d6, rfl, hx6, hy6, hq6⟩)))
  go_wp2_with (first | (first | (go_at_call 23; ((with_reducible refine (psame_any _ _ _ _ A1 A2 (joinL a b) (joinL a b) _ ?_ ?_ ?_).mono ?_); (focus (refine Vec.ext hv1 ?_; repeat (first | exact Ext.refl _ | assumption | refine Ext.alloc ?_ _ | refine Ext.drew ?_ | refine Ext.drewN ?_ _ | refine Ext.trans ?_ (by assumption)))); (focus (refine Vec.ext hv2 ?_; repeat (first | exact Ext.refl _ | assumption | refine Ext.alloc ?_ _ | refine Ext.drew ?_ | refine Ext.drewN ?_ _ | refine Ext.trans ?_ (by assumption)))); (focus (exact HLN7.out)); rintro e w7 ⟨rfl, hq7⟩; rw [decide_eq_true (rfl : (joinL a b) = (joinL a b))])) | (go_at_call 23; ((with_reducible refine (psame_any _ _ _ _ A3 A4 (mkdL a b am bm) (mkdL a b am bm) _ ?_ ?_ ?_).mono ?_); (focus (refine Vec.ext hv3 ?_; repeat (first | exact Ext.refl _ | assumption | refine Ext.alloc ?_ _ | refine Ext.drew ?_ | refine Ext.drewN ?_ _ | refine Ext.trans ?_ (by assumption)))); (focus (refine Vec.ext hv4 ?_; repeat (first | exact Ext.refl _ | assumption | refine Ext.alloc ?_ _ | refine Ext.drew ?_ | refine Ext.drewN ?_ _ | refine Ext.trans ?_ (by assumption)))); (focus (exact HLN8.out)); rintro e w8 ⟨rfl, hq8⟩; rw [decide_eq_true (rfl : (mkdL a b am bm) = (mkdL a b am bm))]))) | (first | (go_at_call 16; ((with_reducible refine (same_any _ _ _ _ A5 A6 (shXL l a b) (shXL l a b) _ ?_ ?_ ?_).mono ?_); (focus (refine Ints.ext hx5 ?_; repeat (first | exact Ext.refl _ | assumption | refine Ext.alloc ?_ _ | refine Ext.drew ?_ | refine Ext.drewN ?_ _ | refine Ext.trans ?_ (by assumption)))); (focus (refine Ints.ext hx6 ?_; repeat (first | exact Ext.refl _ | assumption | refine Ext.alloc ?_ _ | refine Ext.drew ?_ | refine Ext.drewN ?_ _ | refine Ext.trans ?_ (by assumption)))); (focus (exact HLN9.out)); rintro e w9 ⟨rfl, hq9⟩; rw [decide_eq_true (rfl : (shXL l a b) = (shXL l a b))])) | (go_at_call 16; ((with_reducible refine (same_any _ _ _ _ B5 B6 (shYL l a b) (shYL l a b) _ ?_ ?_ ?_).mono ?_); (focus (refine Ints.ext hy5 ?_; repeat (first | exact Ext.refl _ | assumption | refine Ext.alloc ?_ _ | refine Ext.drew ?_ | refine Ext.drewN ?_ _ | refine Ext.trans ?_ (by assumption)))); (focus (refine Ints.ext hy6 ?_; repeat (first | exact Ext.refl _ | assumption | refine Ext.alloc ?_ _ | refine Ext.drew ?_ | refine Ext.drewN ?_ _ | refine Ext.trans ?_ (by assumption)))); (focus (exact HLN10.out)); rintro e w10 ⟨rfl, hq10⟩; rw [decide_eq_true (rfl : (shYL l a b) = (shYL l a b))]))) | (go_at_call 24; ((with_reducible refine (check_any _ _ _ l _ _ _ ?_ ?_).mono ?_); (focus (refine Vec.ext HL.out ?_; repeat (first | exact Ext.refl _ | assumption | refine Ext.alloc ?_ _ | refine Ext.drew ?_ | refine Ext.drewN ?_ _ | refine Ext.trans ?_ (by assumption)))); (focus (unfold maxLen; omega)); rintro e w11 ⟨rfl, hq11⟩)) | (go_at_call 25; ((with_reducible refine (rcheck39_any _ _ _ l _ _ _ ?_ ?_).mono ?_); (focus (refine Vec.ext HL.out ?_; repeat (first | exact Ext.refl _ | assumption | refine Ext.alloc ?_ _ | refine Ext.drew ?_ | refine Ext.drewN ?_ _ | refine Ext.trans ?_ (by assumption)))); (focus (unfold maxLen; omega)); rintro e w12 ⟨rfl, hq12⟩)))
  go_ret
  exact ⟨rfl, by repeat (first | exact Ext.refl _ | assumption | refine Ext.alloc ?_ _ | refine Ext.drew ?_ | refine Ext.drewN ?_ _ | refine Ext.trans ?_ (by assumption))⟩

set_option maxRecDepth 100000 in
theorem seamJoins_lifted (os : Os) (started : os.Started) (H : Type) (enc : TypeId × Value → H) :
    ReturnsInHanded {} Try.checked os 4 .any (Rows.seamJoinsSpec.pre6 enc Try.prog Try.f4 Rows.seamJoinsRow.domain false) (Rows.seamJoinsSpec.post enc Try.prog Try.f4 false true false false) := by
  refine returnsInHanded_of_change (C := Try.checked) own started (by kernel_rfl) Try.func4
    (ChangeSpec.witness6 (enc := enc) (C := Try.checked) false ⟨#[], #[.int .i64 0, .int .i64 0, .slice none 0 0, .slice none 0 0, .slice none 0 0], []⟩ 8 (by kernel_rfl) (by kernel_rfl) (by kernel_rfl) (by kernel_rfl)) ?_
  intro W base args ds gs before hval0 hW hcnd _
  have hval : ∀ (j : Nat) t v, Try.f4.params[j]? = some t → args[j]? = some v → Value.okWide Try.prog W .any base t v := hval0
  have hW' := hW
  obtain ⟨p, q, hA0, hV, rfl, hfz, hnd⟩ := hW
  have hA : DataW.TrodAll enc Try.prog W 0 (fun _ => true) true Try.f4.params.toList args.toList ds p := hA0
  rw [Try.params4] at hA hval
  obtain ⟨v0, vs0, d0, ds0, p0, q0, hargs, rfl, rfl, h0, r0⟩ := trodAll_cons hA
  obtain ⟨v1, vs1, d1, ds1, p1, q1, rfl, rfl, rfl, h1, r1⟩ := trodAll_cons r0
  obtain ⟨v2, vs2, d2, ds2, p2, q2, rfl, rfl, rfl, h2, r2⟩ := trodAll_cons r1
  obtain ⟨v3, vs3, d3, ds3, p3, q3, rfl, rfl, rfl, h3, r3⟩ := trodAll_cons r2
  obtain ⟨v4, vs4, d4, ds4, p4, q4, rfl, rfl, rfl, h4, r4⟩ := trodAll_cons r3
  obtain ⟨rfl, rfl, rfl⟩ := trodAll_nil r4
  obtain rfl : args = #[v0, v1, v2, v3, v4] := by cases args; simp_all
  obtain ⟨rfl, rfl⟩ := trodVars_none hV
  obtain ⟨a, rfl, rfl, -, -⟩ := open_int Try.underlying3 (hval 0 3 v0 rfl rfl) h0
  obtain ⟨b, rfl, rfl, -, -⟩ := open_int Try.underlying3 (hval 1 3 v1 rfl rfl) h1
  obtain ⟨Aam, nam, cam, am, rfl, hiam, hmam⟩ := open_ints_arg (hval 2 29 v2 rfl rfl) h2
  obtain ⟨Abm, nbm, cbm, bm, rfl, hibm, hmbm⟩ := open_ints_arg (hval 3 29 v3 rfl rfl) h3
  obtain ⟨Al, nl, cl, l, rfl, hil, hml⟩ := open_pairs_arg (hval 4 40 v4 rfl rfl) h4
  refine (seamJoins_walk a b nam cam Aam am W hiam hmam nbm cbm Abm bm hibm hmbm nl cl Al l hil hml).mono fun e W' ⟨he, hg⟩ => ?_
  subst he
  exact ⟨_, rfl, law_post laid_out rfl Try.underlying4 (by kernel_rfl) rfl hW' rfl hg⟩

theorem seamJoins_holds : Rows.SeamJoinsSaid :=
  OpenClaim.holds_of_wide 4 Try.f4 rfl rfl rfl rfl rfl rfl rfl ⟨rfl, rfl, rfl, rfl, rfl⟩ rfl rfl rfl rfl rfl (by kernel_rfl) Try.func4 (by kernel_rfl)
    (of_decide_eq_true (by kernel_rfl)) (by unfold Func.isWrapper; first | (rw [if_pos (by decide +kernel)]; kernel_rfl) | (rw [if_neg (by decide +kernel)]; exact ⟨rfl, rfl⟩))
    (fun os started H enc _ => seamJoins_lifted os started H enc)
end Go.Proofs.Ytepegahgiciegaa
