/- Check, All, Uses, Makes and Same return what the reference returns; for any stitch, and lists of at most 60 stitches, or too many. -/
import Derived.Test.YtpcefmopoceiiaaStitchR
import Derived.Test.YtpcefmopoceiiaaLaw
namespace Go.Proofs.Ytpcefmopoceiiaa
open Go.ChangeShapes Go.WideShapes Go.ChangeAt Go.RowKit Go.Joins

set_option maxRecDepth 100000 in
set_option maxHeartbeats 8000000 in
theorem stitchCounts_walk (k : Int) (p : Bool) (a b : Int) (hk0 : 0 ≤ k) (hk1 : k ≤ 255) (na ca : Nat) (Aa : Option Addr) (la : List St) (w : World) (ha : Vec shSt w Aa na la) (hma : na ≤ maxLen) (hya : Bytes la)
    (nb cb : Nat) (Ab : Option Addr) (lb : List St) (hb : Vec shSt w Ab nb lb) (hmb : nb ≤ maxLen) :
    Calls Try.prog 3 #[.agg #[.int .u8 k, .bool p, .int .i64 a, .int .i64 b], .slice Aa na ca, .slice Ab nb cb] w fun e w' => e = .returned (.bool true) ∧ Ext w w' := by
  have HX := Lib.hid ha
  have HY := Lib.hid hb
  have hya := Lib.hid hya
  clear ha hb
  have hB0 := Lib.hid (show Ext w (w.alloc (.cells #[.int .u8 k, .bool p, .int .i64 a, .int .i64 b] 23)) from (Ext.refl _).alloc _)
  have hb : Ext (w.alloc (.cells #[.int .u8 k, .bool p, .int .i64 a, .int .i64 b] 23)) (w.alloc (.cells #[.int .u8 k, .bool p, .int .i64 a, .int .i64 b] 23)) := Ext.refl _
  obtain ⟨hc, hf, hz⟩ := hb.facts
  cases hga : greatN na
  case true =>
    go_enter Try.func3, Try.ntmps3
    go_wp2_with (first | (go_at_call 4; (first | ((with_reducible refine (great_any na ca Aa _ hma).mono ?_); rintro e w2 ⟨rfl, hq⟩; replace hb := Ext.via hb hq (by repeat (first | exact Ext.refl _ | refine Ext.drew ?_ | refine Ext.drewN ?_ _ | refine Ext.alloc ?_ _)); clear hq; obtain ⟨hc, hf, hz⟩ := hb.facts) | ((with_reducible refine (great_any nb cb Ab _ hmb).mono ?_); rintro e w2 ⟨rfl, hq⟩; replace hb := Ext.via hb hq (by repeat (first | exact Ext.refl _ | refine Ext.drew ?_ | refine Ext.drewN ?_ _ | refine Ext.alloc ?_ _)); clear hq; obtain ⟨hc, hf, hz⟩ := hb.facts))))
    go_ret
    exact ⟨rfl, hB0.out.trans hb⟩
  cases hgb : greatN nb
  case true =>
    go_enter Try.func3, Try.ntmps3
    go_wp2_with (first | (go_at_call 4; (first | ((with_reducible refine (great_any na ca Aa _ hma).mono ?_); rintro e w2 ⟨rfl, hq⟩; replace hb := Ext.via hb hq (by repeat (first | exact Ext.refl _ | refine Ext.drew ?_ | refine Ext.drewN ?_ _ | refine Ext.alloc ?_ _)); clear hq; obtain ⟨hc, hf, hz⟩ := hb.facts) | ((with_reducible refine (great_any nb cb Ab _ hmb).mono ?_); rintro e w2 ⟨rfl, hq⟩; replace hb := Ext.via hb hq (by repeat (first | exact Ext.refl _ | refine Ext.drew ?_ | refine Ext.drewN ?_ _ | refine Ext.alloc ?_ _)); clear hq; obtain ⟨hc, hf, hz⟩ := hb.facts))))
    go_ret
    exact ⟨rfl, hB0.out.trans hb⟩
  go_enter Try.func3, Try.ntmps3
  go_wp2_with (first | (go_at_call 4; (first | ((with_reducible refine (great_any na ca Aa _ hma).mono ?_); rintro e w2 ⟨rfl, hq⟩; replace hb := Ext.via hb hq (by repeat (first | exact Ext.refl _ | refine Ext.drew ?_ | refine Ext.drewN ?_ _ | refine Ext.alloc ?_ _)); clear hq; obtain ⟨hc, hf, hz⟩ := hb.facts) | ((with_reducible refine (great_any nb cb Ab _ hmb).mono ?_); rintro e w2 ⟨rfl, hq⟩; replace hb := Ext.via hb hq (by repeat (first | exact Ext.refl _ | refine Ext.drew ?_ | refine Ext.drewN ?_ _ | refine Ext.alloc ?_ _)); clear hq; obtain ⟨hc, hf, hz⟩ := hb.facts))) | (go_at_call 5; ((with_reducible refine (uses_any na ca Aa la _ (Vec.ext HX.out (Ext.trans hB0.out (Ext.trans hb (by repeat (first | exact Ext.refl _ | refine Ext.drew ?_ | refine Ext.drewN ?_ _ | refine Ext.alloc ?_ _))))) hma hya.out).mono ?_); rintro e w2 ⟨rfl, hq⟩; replace hb := Ext.via hb hq (by repeat (first | exact Ext.refl _ | refine Ext.drew ?_ | refine Ext.drewN ?_ _ | refine Ext.alloc ?_ _)); clear hq; obtain ⟨hc, hf, hz⟩ := hb.facts)) | (go_at_call 6; ((with_reducible refine (ruses_any na ca Aa la _ (Vec.ext HX.out (Ext.trans hB0.out (Ext.trans hb (by repeat (first | exact Ext.refl _ | refine Ext.drew ?_ | refine Ext.drewN ?_ _ | refine Ext.alloc ?_ _))))) hma).mono ?_); rintro e w2 ⟨rfl, hq⟩; replace hb := Ext.via hb hq (by repeat (first | exact Ext.refl _ | refine Ext.drew ?_ | refine Ext.drewN ?_ _ | refine Ext.alloc ?_ _)); clear hq; obtain ⟨hc, hf, hz⟩ := hb.facts)) | (go_at_call 7; ((with_reducible refine (makes_any na ca Aa la _ (Vec.ext HX.out (Ext.trans hB0.out (Ext.trans hb (by repeat (first | exact Ext.refl _ | refine Ext.drew ?_ | refine Ext.drewN ?_ _ | refine Ext.alloc ?_ _))))) hma hya.out).mono ?_); rintro e w2 ⟨rfl, hq⟩; replace hb := Ext.via hb hq (by repeat (first | exact Ext.refl _ | refine Ext.drew ?_ | refine Ext.drewN ?_ _ | refine Ext.alloc ?_ _)); clear hq; obtain ⟨hc, hf, hz⟩ := hb.facts)) | (go_at_call 8; ((with_reducible refine (rmakes_any na ca Aa la _ (Vec.ext HX.out (Ext.trans hB0.out (Ext.trans hb (by repeat (first | exact Ext.refl _ | refine Ext.drew ?_ | refine Ext.drewN ?_ _ | refine Ext.alloc ?_ _))))) hma).mono ?_); rintro e w2 ⟨rfl, hq⟩; replace hb := Ext.via hb hq (by repeat (first | exact Ext.refl _ | refine Ext.drew ?_ | refine Ext.drewN ?_ _ | refine Ext.alloc ?_ _)); clear hq; obtain ⟨hc, hf, hz⟩ := hb.facts)))
  go_region_held3 (fun w' => w'.cell? ⟨w.heap.size, 0, none⟩ = some (.int .u8 k) ∧ w'.cell? ⟨w.heap.size, 1, none⟩ = some (.bool p) ∧ w'.cell? ⟨w.heap.size, 2, none⟩ = some (.int .i64 a) ∧ w'.cell? ⟨w.heap.size, 3, none⟩ = some (.int .i64 b)) (go_keep) ((first | (go_at_call 9; ((with_reducible refine (check_any k p a b hk0 hk1 _).mono ?_); rintro e w2 ⟨rfl, hq⟩; replace hb := Ext.via hb hq (by repeat (first | exact Ext.refl _ | refine Ext.drew ?_ | refine Ext.drewN ?_ _ | refine Ext.alloc ?_ _)); clear hq; obtain ⟨hc, hf, hz⟩ := hb.facts)) | (go_at_call 10; ((with_reducible refine (rcheck_any k p a b _).mono ?_); rintro e w2 ⟨rfl, hq⟩; replace hb := Ext.via hb hq (by repeat (first | exact Ext.refl _ | refine Ext.drew ?_ | refine Ext.drewN ?_ _ | refine Ext.alloc ?_ _)); clear hq; obtain ⟨hc, hf, hz⟩ := hb.facts)) | (go_at_call 11; ((with_reducible refine (sall_any na ca Aa la _ (Vec.ext HX.out (Ext.trans hB0.out (Ext.trans hb (by repeat (first | exact Ext.refl _ | refine Ext.drew ?_ | refine Ext.drewN ?_ _ | refine Ext.alloc ?_ _))))) hma hya.out).mono ?_); rintro e w2 ⟨rfl, hq⟩; replace hb := Ext.via hb hq (by repeat (first | exact Ext.refl _ | refine Ext.drew ?_ | refine Ext.drewN ?_ _ | refine Ext.alloc ?_ _)); clear hq; obtain ⟨hc, hf, hz⟩ := hb.facts)) | (go_at_call 12; ((with_reducible refine (rall_any na ca Aa la _ (Vec.ext HX.out (Ext.trans hB0.out (Ext.trans hb (by repeat (first | exact Ext.refl _ | refine Ext.drew ?_ | refine Ext.drewN ?_ _ | refine Ext.alloc ?_ _))))) hma).mono ?_); rintro e w2 ⟨rfl, hq⟩; replace hb := Ext.via hb hq (by repeat (first | exact Ext.refl _ | refine Ext.drew ?_ | refine Ext.drewN ?_ _ | refine Ext.alloc ?_ _)); clear hq; obtain ⟨hc, hf, hz⟩ := hb.facts)) | (go_at_call 13; ((with_reducible refine (ssame_any na nb ca cb Aa Ab la lb _ (Vec.ext HX.out (Ext.trans hB0.out (Ext.trans hb (by repeat (first | exact Ext.refl _ | refine Ext.drew ?_ | refine Ext.drewN ?_ _ | refine Ext.alloc ?_ _))))) (Vec.ext HY.out (Ext.trans hB0.out (Ext.trans hb (by repeat (first | exact Ext.refl _ | refine Ext.drew ?_ | refine Ext.drewN ?_ _ | refine Ext.alloc ?_ _))))) hma).mono ?_); rintro e w2 ⟨rfl, hq⟩; replace hb := Ext.via hb hq (by repeat (first | exact Ext.refl _ | refine Ext.drew ?_ | refine Ext.drewN ?_ _ | refine Ext.alloc ?_ _)); clear hq; obtain ⟨hc, hf, hz⟩ := hb.facts)) | (go_at_call 14; ((with_reducible refine (rsame_any na nb ca cb Aa Ab la lb _ (Vec.ext HX.out (Ext.trans hB0.out (Ext.trans hb (by repeat (first | exact Ext.refl _ | refine Ext.drew ?_ | refine Ext.drewN ?_ _ | refine Ext.alloc ?_ _))))) (Vec.ext HY.out (Ext.trans hB0.out (Ext.trans hb (by repeat (first | exact Ext.refl _ | refine Ext.drew ?_ | refine Ext.drewN ?_ _ | refine Ext.alloc ?_ _))))) hma).mono ?_); rintro e w2 ⟨rfl, hq⟩; replace hb := Ext.via hb hq (by repeat (first | exact Ext.refl _ | refine Ext.drew ?_ | refine Ext.drewN ?_ _ | refine Ext.alloc ?_ _)); clear hq; obtain ⟨hc, hf, hz⟩ := hb.facts))))
  all_goals
    go_wp2
    go_ret
    exact ⟨rfl, hB0.out.trans hb⟩

set_option maxRecDepth 100000 in
theorem stitchCounts_lifted (os : Os) (started : os.Started) (H : Type) (enc : TypeId × Value → H) :
    ReturnsInHanded {} Try.checked os 3 .any (Rows.stitchCountsSpec.pre6 enc Try.prog Try.f3 Rows.stitchCountsRow.domain false) (Rows.stitchCountsSpec.post enc Try.prog Try.f3 false true false false) := by
  refine returnsInHanded_of_change (C := Try.checked) own started (by kernel_rfl) Try.func3
    (ChangeSpec.witness6 (enc := enc) (C := Try.checked) false ⟨#[], #[.agg #[.int .u8 0, .bool false, .int .i64 0, .int .i64 0], .slice none 0 0, .slice none 0 0], []⟩ 8 (by kernel_rfl) (by kernel_rfl) (by kernel_rfl) (by kernel_rfl)) ?_
  intro W base args ds gs before hval0 hW hcnd _
  have hval : ∀ (j : Nat) t v, Try.f3.params[j]? = some t → args[j]? = some v → Value.okWide Try.prog W .any base t v := hval0
  have hW' := hW
  obtain ⟨p, q, hA0, hV, rfl, hfz, hnd⟩ := hW
  have hA : DataW.TrodAll enc Try.prog W 0 (fun _ => true) true Try.f3.params.toList args.toList ds p := hA0
  rw [Try.params3] at hA hval
  obtain ⟨v0, vs0, d0, ds0, p0, q0, hargs, rfl, rfl, h0, r0⟩ := trodAll_cons hA
  obtain ⟨v1, vs1, d1, ds1, p1, q1, rfl, rfl, rfl, h1, r1⟩ := trodAll_cons r0
  obtain ⟨v2, vs2, d2, ds2, p2, q2, rfl, rfl, rfl, h2, r2⟩ := trodAll_cons r1
  obtain ⟨rfl, rfl, rfl⟩ := trodAll_nil r2
  obtain rfl : args = #[v0, v1, v2] := by cases args; simp_all
  obtain ⟨rfl, rfl⟩ := trodVars_none hV
  obtain ⟨sk, sp, sa, sb, rfl, sh0, sh1⟩ := open_st_arg (hval 0 23 v0 rfl rfl) h0
  obtain ⟨Aa, na, ca, a, rfl, hia, hma, hya⟩ := open_sts_arg (hval 1 24 v1 rfl rfl) h1
  obtain ⟨Ab, nb, cb, b, rfl, hib, hmb, hyb⟩ := open_sts_arg (hval 2 24 v2 rfl rfl) h2
  refine (stitchCounts_walk sk sp sa sb sh0 sh1 na ca Aa a W hia hma hya nb cb Ab b hib hmb).mono fun e W' ⟨he, hg⟩ => ?_
  subst he
  exact ⟨_, rfl, law_post laid_out rfl Try.underlying4 (by kernel_rfl) rfl hW' rfl hg⟩

theorem stitchCounts_holds : Rows.StitchCountsSaid :=
  OpenClaim.holds_of_wide 3 Try.f3 rfl rfl rfl rfl rfl rfl rfl ⟨rfl, rfl, rfl, rfl, rfl⟩ rfl rfl rfl rfl rfl (by kernel_rfl) Try.func3 (by kernel_rfl)
    (of_decide_eq_true (by kernel_rfl)) (by unfold Func.isWrapper; first | (rw [if_pos (by decide +kernel)]; kernel_rfl) | (rw [if_neg (by decide +kernel)]; exact ⟨rfl, rfl⟩))
    (fun os started H enc _ => stitchCounts_lifted os started H enc)
end Go.Proofs.Ytpcefmopoceiiaa
