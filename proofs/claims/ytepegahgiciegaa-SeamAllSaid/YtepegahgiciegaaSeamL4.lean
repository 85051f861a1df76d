/- The even seam of two edges is a seam, in which each loop of the longer edge is in one pair, and the shares of the shorter one differ by at most 1; for any two edges. -/
import Derived.Test.YtepegahgiciegaaSeamG
import Derived.Test.YtepegahgiciegaaSeamD
import Derived.Test.YtepegahgiciegaaOpenInts
import Derived.Test.YtepegahgiciegaaOpenGauge
namespace Go.Proofs.Ytepegahgiciegaa
open Go.ChangeShapes Go.WideShapes Go.ChangeAt Go.RowKit Go.Joins

theorem shares_ok {a b : Nat} (h : edOk a b = true) {n c : Nat} {A : Option Addr} (w : World) (hl : Vec shPair w A n (joinL a b)) (hm : n ≤ maxLen) :
    Calls Try.prog 21 #[.slice A n c, .int .i64 a, .int .i64 b] w fun e w' => ∃ A cap B cap', e = .returned (.tuple #[.slice A a cap, .slice B b cap', .int .i64 0]) ∧ Ints w' A a ((List.range a).map (shX (joinL a b))) ∧ Ints w' B b ((List.range b).map (shX (joinL b a))) ∧ Ext w w' := by
  have := shares_any n c A (joinL a b) a b w hl hm
  have e1 : shXL (joinL a b) a b = (List.range a).map (shX (joinL a b)) := by rw [shXL, if_pos (join_chk h)]; rfl
  have e2 : shYL (joinL a b) a b = (List.range b).map (shX (joinL b a)) := by
    rw [shYL, if_pos (join_chk h)]
    exact List.map_congr_left fun j _ => join_shY h j
  unfold ShE at this
  rw [e1, e2, join_chk h] at this
  simp only [List.length_map, List.length_range] at this
  exact this
/-- the least and the greatest share -/
theorem share_most {p : Nat} {b : Int} (h : edOk p b = true) : 1 ≤ lowL ((List.range p).map (shX (joinL p b))) p ∧ highL ((List.range p).map (shX (joinL p b))) p - lowL ((List.range p).map (shX (joinL p b))) p ≤ 1 ∧
    lowL ((List.range p).map (shX (joinL p b))) p ≤ 1001 ∧ highL ((List.range p).map (shX (joinL p b))) p ≤ 1001 ∧ 0 ≤ highL ((List.range p).map (shX (joinL p b))) p ∧ (b ≤ p → highL ((List.range p).map (shX (joinL p b))) p = 1) := by
  have h0 := edOk_e h
  have hk : 1 ≤ max (p : Int) b / p := (Int.le_ediv_iff_mul_le (by omega)).2 (by omega)
  have hk2 : max (p : Int) b / p ≤ max (p : Int) b := Int.ediv_le_self _ (by omega)
  have hg : ∀ j, j < p → ((List.range p).map (shX (joinL p b))).getD j 0 = shX (joinL p b) j := fun j hj => by simp [List.getD_eq_getElem?_getD, hj]
  have hb := most_bd (l := (List.range p).map (shX (joinL p b))) (lo := max (p : Int) b / p) (hi := max (p : Int) b / p + 1) (by simp; omega) (fun j hj => by
    simp at hj
    rw [hg j hj]
    have := join_shX h (j := j) (by omega)
    exact ⟨this.1, this.2.1⟩) p (by simp)
  refine ⟨by omega, by omega, by omega, by omega, by omega, fun hbp => ?_⟩
  have hb2 := most_bd (l := (List.range p).map (shX (joinL p b))) (lo := 1) (hi := 1) (by simp; omega) (fun j hj => by
    simp at hj
    rw [hg j hj]
    have := (join_shX h (j := j) (by omega)).2.2 hbp
    omega) p (by simp)
  omega
theorem check_ok {a b : Nat} (h : edOk a b = true) {n c : Nat} {A : Option Addr} (w : World) (hl : Vec shPair w A n (joinL a b)) (hm : n ≤ maxLen) :
    Calls Try.prog 24 #[.slice A n c, .int .i64 a, .int .i64 b] w fun e w' => e = .returned (.int .i64 0) ∧ Ext w w' := by
  have := check_any n c A (joinL a b) a b w hl hm
  rwa [join_chk h] at this

set_option maxRecDepth 100000 in
set_option maxHeartbeats 4000000 in
theorem seamAll_walk (a b : Int) (w : World) : Calls Try.prog 6 #[.int .i64 a, .int .i64 b] w fun e w' => e = .returned (.bool true) ∧ Ext w w' := by
  cases h : edOk a b
  · go_enter Try.func6, Try.ntmps6
    go_wp2_with (first | (go_at_call 26; ((with_reducible refine (alive_any _).mono ?_); rintro e w1 ⟨rfl, hq1⟩)) | (go_at_call 17; ((with_reducible refine (join_bad h _).mono ?_); rintro e w2 ⟨A2, c2, rfl, hq2⟩)))
    go_ret
    exact ⟨rfl, by repeat (first | exact Ext.refl _ | assumption | refine Ext.alloc ?_ _ | refine Ext.drew ?_ | refine Ext.drewN ?_ _ | refine Ext.trans ?_ (by assumption))⟩
  obtain ⟨a0, a1, b0, b1⟩ := edOk_e h
  obtain ⟨p, rfl⟩ := Int.eq_ofNat_of_zero_le (show 0 ≤ a by omega)
  obtain ⟨q, rfl⟩ := Int.eq_ofNat_of_zero_le (show 0 ≤ b by omega)
  obtain ⟨m, hm⟩ := Int.eq_ofNat_of_zero_le (show 0 ≤ max (p : Int) q by omega)
  have HM := Lib.hid hm
  have H := Lib.hid h
  have hmx : ∀ (ts : Array TypeId) (t : TypeId) (w : World), (Builtin.max_ ts t #[.int .i64 p, .int .i64 q]).run Try.prog w = .ok (.int .i64 m) w := fun ts t w => by rw [run_max_i, hm]
  obtain ⟨s1, s2, s3, s4, s5, s6⟩ := share_most h
  obtain ⟨t1, t2, t3, t4, t5, t6⟩ := share_most (p := q) (b := p) (by rw [← edOk_swap]; exact h)
  have S6 := Lib.hid s6
  have T6 := Lib.hid t6
  have hm9 : m ≤ maxLen := by unfold maxLen; omega
  have HX := Lib.hid (show ∀ w A, Ints w A p ((List.range p).map (shX (joinL p q))) → True from fun _ _ _ => trivial)
  clear h hm s6 t6
  have M1 : ∀ (n c : Nat) (A : Option Addr) (w : World), n = p → Ints w A p ((List.range p).map (shX (joinL p q))) →
      Calls Try.prog 27 #[.slice A p c] w fun e w' => e = .returned (.tuple #[.int .i64 (lowL ((List.range p).map (shX (joinL p q))) p), .int .i64 (highL ((List.range p).map (shX (joinL p q))) p)]) ∧ Ext w w' := fun n c A w _ hi => most_any p c A _ w hi (by omega) (by omega)
  have M2 : ∀ (n c : Nat) (A : Option Addr) (w : World), n = q → Ints w A q ((List.range q).map (shX (joinL q p))) →
      Calls Try.prog 27 #[.slice A q c] w fun e w' => e = .returned (.tuple #[.int .i64 (lowL ((List.range q).map (shX (joinL q p))) q), .int .i64 (highL ((List.range q).map (shX (joinL q p))) q)]) ∧ Ext w w' := fun n c A w _ hi => most_any q c A _ w hi (by omega) (by omega)
  have HM1 := Lib.hid M1
  have HM2 := Lib.hid M2
  clear M1 M2 HX
  generalize lowL ((List.range p).map (shX (joinL p q))) p = lx at *
  generalize highL ((List.range p).map (shX (joinL p q))) p = gx at *
  generalize lowL ((List.range q).map (shX (joinL q p))) q = ly at *
  generalize highL ((List.range q).map (shX (joinL q p))) q = gy at *
  rcases Int.lt_trichotomy (p : Int) q with c | c | c
  · have hgy := T6.out (by omega)
    subst hgy
    go_enter Try.func6, Try.ntmps6
    go_wp2_with (first | (go_at_call 26; ((with_reducible refine (alive_any _).mono ?_); rintro e w1 ⟨rfl, hq1⟩)) | (go_at_call 17; ((with_reducible refine (join_ok H.out HM.out _).mono ?_); rintro e w2 ⟨A2, c2, rfl, hv2, hq2⟩)) | (go_at_call 21; ((with_reducible refine (shares_ok H.out _ hv2 hm9).mono ?_); rintro e w3 ⟨A3, c3, B3, d3, rfl, hx3, hy3, hq3⟩)) | (go_at_call 24; ((with_reducible refine (check_ok H.out _ (Vec.ext hv2 hq3) hm9).mono ?_); rintro e w4 ⟨rfl, hq4⟩)) | (go_at_call 27; (first | ((with_reducible refine (HM1.out _ c3 A3 _ rfl (Ints.ext hx3 ?_)).mono ?_); (focus (repeat (first | exact Ext.refl _ | assumption | refine Ext.alloc ?_ _ | refine Ext.drew ?_ | refine Ext.drewN ?_ _ | refine Ext.trans ?_ (by assumption)))); rintro e w5 ⟨rfl, hq5⟩) | ((with_reducible refine (HM2.out _ d3 B3 _ rfl (Ints.ext hy3 ?_)).mono ?_); (focus (repeat (first | exact Ext.refl _ | assumption | refine Ext.alloc ?_ _ | refine Ext.drew ?_ | refine Ext.drewN ?_ _ | refine Ext.trans ?_ (by assumption)))); rintro e w6 ⟨rfl, hq6⟩))))
    go_ret
    exact ⟨rfl, by repeat (first | exact Ext.refl _ | assumption | refine Ext.alloc ?_ _ | refine Ext.drew ?_ | refine Ext.drewN ?_ _ | refine Ext.trans ?_ (by assumption))⟩
  · obtain rfl : p = q := by omega
    clear c
    have hgx := S6.out (by omega)
    have hgy := T6.out (by omega)
    subst hgx
    subst hgy
    go_enter Try.func6, Try.ntmps6
    go_wp2_with (first | (go_at_call 26; ((with_reducible refine (alive_any _).mono ?_); rintro e w1 ⟨rfl, hq1⟩)) | (go_at_call 17; ((with_reducible refine (join_ok H.out HM.out _).mono ?_); rintro e w2 ⟨A2, c2, rfl, hv2, hq2⟩)) | (go_at_call 21; ((with_reducible refine (shares_ok H.out _ hv2 hm9).mono ?_); rintro e w3 ⟨A3, c3, B3, d3, rfl, hx3, hy3, hq3⟩)) | (go_at_call 24; ((with_reducible refine (check_ok H.out _ (Vec.ext hv2 hq3) hm9).mono ?_); rintro e w4 ⟨rfl, hq4⟩)) | (go_at_call 27; (first | ((with_reducible refine (HM1.out _ c3 A3 _ rfl (Ints.ext hx3 ?_)).mono ?_); (focus (repeat (first | exact Ext.refl _ | assumption | refine Ext.alloc ?_ _ | refine Ext.drew ?_ | refine Ext.drewN ?_ _ | refine Ext.trans ?_ (by assumption)))); rintro e w5 ⟨rfl, hq5⟩) | ((with_reducible refine (HM2.out _ d3 B3 _ rfl (Ints.ext hy3 ?_)).mono ?_); (focus (repeat (first | exact Ext.refl _ | assumption | refine Ext.alloc ?_ _ | refine Ext.drew ?_ | refine Ext.drewN ?_ _ | refine Ext.trans ?_ (by assumption)))); rintro e w6 ⟨rfl, hq6⟩))))
    go_ret
    exact ⟨rfl, by repeat (first | exact Ext.refl _ | assumption | refine Ext.alloc ?_ _ | refine Ext.drew ?_ | refine Ext.drewN ?_ _ | refine Ext.trans ?_ (by assumption))⟩
  · have hgx := S6.out (by omega)
    subst hgx
    go_enter Try.func6, Try.ntmps6
    go_wp2_with (first | (go_at_call 26; ((with_reducible refine (alive_any _).mono ?_); rintro e w1 ⟨rfl, hq1⟩)) | (go_at_call 17; ((with_reducible refine (join_ok H.out HM.out _).mono ?_); rintro e w2 ⟨A2, c2, rfl, hv2, hq2⟩)) | (go_at_call 21; ((with_reducible refine (shares_ok H.out _ hv2 hm9).mono ?_); rintro e w3 ⟨A3, c3, B3, d3, rfl, hx3, hy3, hq3⟩)) | (go_at_call 24; ((with_reducible refine (check_ok H.out _ (Vec.ext hv2 hq3) hm9).mono ?_); rintro e w4 ⟨rfl, hq4⟩)) | (go_at_call 27; (first | ((with_reducible refine (HM1.out _ c3 A3 _ rfl (Ints.ext hx3 ?_)).mono ?_); (focus (repeat (first | exact Ext.refl _ | assumption | refine Ext.alloc ?_ _ | refine Ext.drew ?_ | refine Ext.drewN ?_ _ | refine Ext.trans ?_ (by assumption)))); rintro e w5 ⟨rfl, hq5⟩) | ((with_reducible refine (HM2.out _ d3 B3 _ rfl (Ints.ext hy3 ?_)).mono ?_); (focus (repeat (first | exact Ext.refl _ | assumption | refine Ext.alloc ?_ _ | refine Ext.drew ?_ | refine Ext.drewN ?_ _ | refine Ext.trans ?_ (by assumption)))); rintro e w6 ⟨rfl, hq6⟩))))
    go_ret
    exact ⟨rfl, by repeat (first | exact Ext.refl _ | assumption | refine Ext.alloc ?_ _ | refine Ext.drew ?_ | refine Ext.drewN ?_ _ | refine Ext.trans ?_ (by assumption))⟩

set_option maxRecDepth 100000 in
theorem seamAll_lifted (os : Os) (started : os.Started) (H : Type) (enc : TypeId × Value → H) :
    ReturnsInHanded {} Try.checked os 6 .any (Rows.seamAllSpec.pre6 enc Try.prog Try.f6 Rows.seamAllRow.domain false) (Rows.seamAllSpec.post enc Try.prog Try.f6 false true false false) := by
  refine returnsInHanded_of_change (C := Try.checked) own started (by kernel_rfl) Try.func6
    (ChangeSpec.witness6 (enc := enc) (C := Try.checked) false ⟨#[], #[.int .i64 0, .int .i64 0], []⟩ 8 (by kernel_rfl) (by kernel_rfl) (by kernel_rfl) (by kernel_rfl)) ?_
  intro W base args ds gs before hval0 hW hcnd _
  have hval : ∀ (j : Nat) t v, Try.f6.params[j]? = some t → args[j]? = some v → Value.okWide Try.prog W .any base t v := hval0
  have hW' := hW
  obtain ⟨p, q, hA0, hV, rfl, hfz, hnd⟩ := hW
  have hA : DataW.TrodAll enc Try.prog W 0 (fun _ => true) true Try.f6.params.toList args.toList ds p := hA0
  rw [Try.params6] at hA hval
  obtain ⟨v0, vs0, d0, ds0, p0, q0, hargs, rfl, rfl, h0, r0⟩ := trodAll_cons hA
  obtain ⟨v1, vs1, d1, ds1, p1, q1, rfl, rfl, rfl, h1, r1⟩ := trodAll_cons r0
  obtain ⟨rfl, rfl, rfl⟩ := trodAll_nil r1
  obtain rfl : args = #[v0, v1] := by cases args; simp_all
  obtain ⟨rfl, rfl⟩ := trodVars_none hV
  obtain ⟨a, rfl, rfl, -, -⟩ := open_int Try.underlying3 (hval 0 3 v0 rfl rfl) h0
  obtain ⟨b, rfl, rfl, -, -⟩ := open_int Try.underlying3 (hval 1 3 v1 rfl rfl) h1
  refine (seamAll_walk a b W).mono fun e W' ⟨he, hg⟩ => ?_
  subst he
  exact ⟨_, rfl, law_post laid_out rfl Try.underlying4 (by kernel_rfl) rfl hW' rfl hg⟩

theorem seamAll_holds : Rows.SeamAllSaid :=
  OpenClaim.holds_of_wide 6 Try.f6 rfl rfl rfl rfl rfl rfl rfl ⟨rfl, rfl, rfl, rfl, rfl⟩ rfl rfl rfl rfl rfl (by kernel_rfl) Try.func6 (by kernel_rfl)
    (of_decide_eq_true (by kernel_rfl)) (by unfold Func.isWrapper; first | (rw [if_pos (by decide +kernel)]; kernel_rfl) | (rw [if_neg (by decide +kernel)]; exact ⟨rfl, rfl⟩))
    (fun os started H enc _ => seamAll_lifted os started H enc)
end Go.Proofs.Ytepegahgiciegaa
