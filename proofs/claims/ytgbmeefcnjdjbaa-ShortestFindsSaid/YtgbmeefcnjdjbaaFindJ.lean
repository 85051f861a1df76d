/- The finder of the shortest list: the walk of list. -/
import Derived.Test.YtgbmeefcnjdjbaaFindI
namespace Go.Proofs.Ytgbmeefcnjdjbaa
set_option maxRecDepth 100000
set_option maxRecDepth 100000
open Go.RowKit Go.ChangeShapes Go.WideShapes Go.Joins
set_option maxHeartbeats 8000000 in
theorem list_any (g n c : Nat) (A : Option Addr) (l : List St) (hn : n ≤ 60) (hln : l.length = n) (hby : Bytes l) (hne : ∀ b off, A = some ⟨b, off, none⟩ → b ≠ g) : ∀ (M a m : Nat) (tab : Nat → Nat → Chc) (w : World), m ≤ M → 1 ≤ m → a + m ≤ n → Vec shSt w A n l → FAt w g n c A tab → (∀ N, TabOk l tab N) → ∀ (ai mi : Int), ai = (a : Int) → mi = (m : Int) →
    Calls Try.prog 9 #[.pointer (some ⟨g, 0, none⟩), .int .i64 ai, .int .i64 mi] w (ListR l g n c A 48 (mkT M (sub l a m)) w) := by
  intro M
  induction M with
  | zero => intro a m tab w h0 h1; omega
  | succ M ih =>
    intro a m tab w hM h1 ham hv ht hok ai mi hai hmi
    subst hai
    subst hmi
    have IH := Lib.hid ih
    have HV := Lib.hid hv
    have HT := Lib.hid ht
    have HOK := Lib.hid hok
    have ha : a < 60 := by omega
    have hm : m ≤ 60 := by omega
    have q0 : (0 : Int) ≤ (a : Int) := by omega
    have q1 : (a : Int) < 60 := by omega
    have q2 : (0 : Int) ≤ (m : Int) := by omega
    have q3 : (m : Int) < 61 := by omega
    have hsn := sub_ne (l := l) (a := a) (n := m) (by omega) h1
    have hsl := sub_len (l := l) (a := a) (n := m) (by omega)
    have hmd := ch_made hsn
    rw [hsl] at hmd
    obtain ⟨zt, hzt, hzs⟩ := info_tm
    have HZT := Lib.hid hzt
    have HZS := Lib.hid hzs
    clear ih hv ht hok hzt hzs
    go_enter Try.func9, Try.ntmps9
    go_upto_region 3 with (first
      | (go_at_call 16; go_loud ((with_reducible refine (least_any g n c A l hn hln hne m a m tab _ (Nat.le_refl _) h1 ham HV.out HT.out (HOK.out m) _ _ rfl rfl).mono ?_); rintro e w1 ⟨tab1, rfl, hq⟩; have HQ := Lib.hid hq; have c0 := hq.at_.tb a m 0 ha hm (by omega); have c1 := hq.at_.tb a m 1 ha hm (by omega); have c2 := hq.at_.tb a m 2 ha hm (by omega); rw [hq.it] at c0 c1 c2; rw [Nat.add_zero] at c0; have z1 := hq.at_.lt; clear hq)))
    have hmk : mkT (M + 1) (sub l a m) = if 0 < (ch (sub l a m)).part then (mkT M ((sub l a m).take (ch (sub l a m)).part)).app (mkT M ((sub l a m).drop (ch (sub l a m)).part)) else if 0 < (ch (sub l a m)).period then .cons (((sub l a m).length / (ch (sub l a m)).period : Nat) : Int) st0 (mkT M ((sub l a m).take (ch (sub l a m)).period)) .nil else .cons ((sub l a m).length : Int) ((sub l a m).getD 0 st0) .nil .nil := rfl
    obtain ⟨pt, hpt⟩ : ∃ x, (ch (sub l a m)).part = x := ⟨_, rfl⟩
    obtain ⟨pd, hpd⟩ : ∃ x, (ch (sub l a m)).period = x := ⟨_, rfl⟩
    have e1 : fld (ch (sub l a m)) 1 = pd := hpd
    have e2 : fld (ch (sub l a m)) 2 = pt := hpt
    rw [e1] at c1
    rw [e2] at c2
    rw [e1, e2]
    rw [hpt, hpd, hsl] at hmk
    rw [hpt, hpd] at hmd
    generalize hwb : World.alloc w1 _ = wb
    have hbz : wb.heap.size = w1.heap.size + 1 := by rw [← hwb]; simp
    have b1 : wb.cell? ⟨w1.heap.size, 1, none⟩ = some (.int .i64 (pd : Nat)) := by rw [← hwb]; simp [go_sem]
    have b2 : wb.cell? ⟨w1.heap.size, 2, none⟩ = some (.int .i64 (pt : Nat)) := by rw [← hwb]; simp [go_sem]
    have HEB := Lib.hid (show Ext w1 wb by rw [← hwb]; exact (Ext.refl _).alloc _)
    clear hwb c0 c1 c2
    have hb : (pt < m ∧ pd < m) := by
      rcases hmd with ⟨hx, -⟩ | ⟨h2, h3, h4, -⟩ | ⟨h2, h3, h4, -⟩
      · rw [hx] at hpt hpd
        simp only at hpt hpd
        omega
      · omega
      · omega
    have hd2 : 0 < pd → 2 ≤ pd := by
      rcases hmd with ⟨hx, -⟩ | ⟨h2, h3, h4, -⟩ | ⟨h2, h3, h4, -⟩
      · rw [hx] at hpd
        simp only at hpd
        omega
      · omega
      · omega
    have HW1 := Lib.hid (show Vec shSt wb A n l from (HV.out.far HQ.out.but hne).ext HEB.out)
    have HO1 := Lib.hid (HQ.out.all HOK.out)
    have HF1 := Lib.hid (HQ.out.at_.ext HEB.out)
    have hgw : g < w.heap.size := HT.out.lt
    have hw1 : w.heap.size ≤ w1.heap.size := HQ.out.but.size
    have HBW := Lib.hid (HQ.out.but.trans (But.of_ext HEB.out _))
    clear hmd hpt hpd e1 e2
    by_cases hp0 : 0 < pt
    · rw [if_pos hp0, sub_take (by omega), sub_drop (by omega)] at hmk
      have hx1 := sub_ne (l := l) (a := a) (n := pt) (by omega) (by omega)
      have hx2 := sub_ne (l := l) (a := a + pt) (n := m - pt) (by omega) (by omega)
      have k1 := mkT_cnt M (sub l a pt) hx1 (by rw [sub_len (by omega)]; omega)
      have k2 := mkT_cnt M (sub l (a + pt) (m - pt)) hx2 (by rw [sub_len (by omega)]; omega)
      rw [sub_len (by omega)] at k1 k2
      have HMK := Lib.hid hmk
      have t1 : ((0 : Int) < (pt : Int)) := by omega
      have i1 := IntWalk.i64_in ((a : Int) + (pt : Int)) (by omega)
      have i2 := IntWalk.i64_in ((m : Int) - (pt : Int)) (by omega)
      clear hmk hx1 hx2
      have E3 := Lib.hid (show (a : Int) + (pt : Int) = ((a + pt : Nat) : Int) by omega)
      have E4 := Lib.hid (show (m : Int) - (pt : Int) = ((m - pt : Nat) : Int) by omega)
      clear b1
      go_upto_region 4 with fail
      go_region_held3 (fun w' => w'.cell? ⟨w1.heap.size, 2, none⟩ = some (.int .i64 (pt : Nat))) (go_keep)
        (first
          | (go_at_call 9; (first
            | ((with_reducible refine (IH.out (a + pt) (m - pt) _ _ (by omega) (by omega) (by omega) (HV2.out.ext (by repeat (first | exact Ext.refl _ | assumption | refine Ext.alloc ?_ _ | refine Ext.drew ?_ | refine Ext.drewN ?_ _ | refine Ext.trans ?_ (by assumption)))) (HF2.out.ext (by repeat (first | exact Ext.refl _ | assumption | refine Ext.alloc ?_ _ | refine Ext.drew ?_ | refine Ext.drewN ?_ _ | refine Ext.trans ?_ (by assumption)))) HO2.out _ _ E3.out E4.out).mono ?_); rintro e w3 ⟨v2, tab3, rfl, hf3, ho3, hb3, hw3⟩; have HF3 := Lib.hid hf3; have HO3 := Lib.hid ho3; have HB3 := Lib.hid ((But.of_ext (by repeat (first | exact Ext.refl _ | assumption | refine Ext.alloc ?_ _ | refine Ext.drew ?_ | refine Ext.drewN ?_ _ | refine Ext.trans ?_ (by assumption))) (some g)).trans hb3 : But (some g) w2 w3); have HN3 := Lib.hid (show OwnT w3 w2.heap.size 48 v2 (mkT M (sub l (a + pt) (m - pt))).cnt (mkT M (sub l (a + pt) (m - pt))) from hw3); have b4 := (But.cell (p := ⟨w1.heap.size, 2, none⟩) HB3.out (by have := HB2.out.size; show w1.heap.size < w2.heap.size; omega) (by intro e9; have e8 : w1.heap.size = g := (by simpa using e9); omega)).trans b3; clear hf3 ho3 hb3 hw3)
            | (go_loud ((with_reducible refine (IH.out a pt _ _ (by omega) (by omega) (by omega) (HW1.out.ext (by repeat (first | exact Ext.refl _ | assumption | refine Ext.alloc ?_ _ | refine Ext.drew ?_ | refine Ext.drewN ?_ _ | refine Ext.trans ?_ (by assumption)))) (HF1.out.ext (by repeat (first | exact Ext.refl _ | assumption | refine Ext.alloc ?_ _ | refine Ext.drew ?_ | refine Ext.drewN ?_ _ | refine Ext.trans ?_ (by assumption)))) HO1.out _ _ rfl rfl).mono ?_); rintro e w2 ⟨v1, tab2, rfl, hf2, ho2, hb2, hw2⟩; have HF2 := Lib.hid hf2; have HO2 := Lib.hid ho2; have HB2 := Lib.hid ((But.of_ext (by repeat (first | exact Ext.refl _ | assumption | refine Ext.alloc ?_ _ | refine Ext.drew ?_ | refine Ext.drewN ?_ _ | refine Ext.trans ?_ (by assumption))) (some g)).trans hb2 : But (some g) wb w2); have HV2 := Lib.hid (HW1.out.far HB2.out hne); have HN2 := Lib.hid (show OwnT w2 wb.heap.size 48 v1 (mkT M (sub l a pt)).cnt (mkT M (sub l a pt)) from hw2); have b3 := (But.cell (p := ⟨w1.heap.size, 2, none⟩) HB2.out (by show w1.heap.size < wb.heap.size; omega) (by intro e9; have e8 : w1.heap.size = g := (by simpa using e9); omega)).trans b2; clear hf2 ho2 hb2 hw2))))
          | (refine step_append_two (g := g) 23 48 zt 56 (by rfl) (by rfl) Try.underlying23 HZT.out HZS.out (by omega) (by rfl) (by rfl) HN2.out HN3.out HB2.out HB3.out (by omega) (by omega) ?_; intro v' w4 hown4 hbut4 hkeep4; have b5 := (But.cell (p := ⟨w1.heap.size, 2, none⟩) hbut4.out (by show w1.heap.size < wb.heap.size; omega) (by intro e9; have e8 : w1.heap.size = g := (by simpa using e9); omega)).trans b2))
      go_wp2
      go_ret
      rw [HMK.out]
      exact ⟨_, tab3, rfl, hkeep4.out _ _ _ _ HF3.out, HO3.out, HBW.out.trans hbut4.out, by rw [app_cnt]; exact hown4.low (by omega)⟩
    have t1 : ¬ ((0 : Int) < (pt : Int)) := by omega
    rw [if_neg hp0] at hmk
    by_cases hp1 : 0 < pd
    · rw [if_pos hp1, sub_take (by omega)] at hmk
      have HMK := Lib.hid hmk
      have t2 : ((0 : Int) < (pd : Int)) := by omega
      have k1 := mkT_cnt M (sub l a pd) (sub_ne (l := l) (by omega) (by omega)) (by rw [sub_len (by omega)]; omega)
      rw [sub_len (by omega)] at k1
      have tz : ¬ pd = 0 := by omega
      obtain ⟨q, hq⟩ : ∃ q, m / pd = q := ⟨_, rfl⟩
      have td2 : (m : Int) / (pd : Int) = (q : Int) := by rw [← hq]; rfl
      have td : (m : Int).tdiv (pd : Int) = (q : Int) := by rw [Int.tdiv_eq_ediv_of_nonneg (by omega)]; exact td2
      have hqm : q ≤ m := by rw [← hq]; exact Nat.div_le_self _ _
      have tw := IntWalk.i64_in (q : Int) (by omega)
      have HQ9 := Lib.hid hq
      clear hq
      clear hmk
      go_upto_region 6 with fail
      go_region_held3 (fun w' => w'.cell? ⟨w1.heap.size, 1, none⟩ = some (.int .i64 (pd : Nat))) (go_keep)
        (first
          | (go_at_call 9; go_loud ((with_reducible refine (IH.out a pd _ _ (by omega) (by omega) (by omega) (HW1.out.ext (by repeat (first | exact Ext.refl _ | assumption | refine Ext.alloc ?_ _ | refine Ext.drew ?_ | refine Ext.drewN ?_ _ | refine Ext.trans ?_ (by assumption)))) (HF1.out.ext (by repeat (first | exact Ext.refl _ | assumption | refine Ext.alloc ?_ _ | refine Ext.drew ?_ | refine Ext.drewN ?_ _ | refine Ext.trans ?_ (by assumption)))) HO1.out _ _ rfl rfl).mono ?_); rintro e w2 ⟨v1, tab2, rfl, hf2, ho2, hb2, hw2⟩; obtain ⟨A2, c2, rfl, hk2⟩ := own_tms hw2 (by omega); have HF2 := Lib.hid hf2; have HO2 := Lib.hid ho2; have HB2 := Lib.hid ((But.of_ext (by repeat (first | exact Ext.refl _ | assumption | refine Ext.alloc ?_ _ | refine Ext.drew ?_ | refine Ext.drewN ?_ _ | refine Ext.trans ?_ (by assumption))) (some g)).trans hb2 : But (some g) wb w2); have HK2 := Lib.hid (show TvK w2 (fun b => wb.heap.size ≤ b) A2 (mkT M (sub l a pd)).cnt (mkT M (sub l a pd)) from hk2); have b3 := (But.cell (p := ⟨w1.heap.size, 1, none⟩) HB2.out (by show w1.heap.size < wb.heap.size; omega) (by intro e9; have e8 : w1.heap.size = g := (by simpa using e9); omega)).trans b1; clear hf2 ho2 hb2 hw2 hk2)))
      all_goals (go_wp2; go_ret; rw [HMK.out, HQ9.out]; exact ⟨_, tab2, rfl, HF2.out.ext ((Ext.refl _).alloc _), HO2.out, (HBW.out.trans HB2.out).trans (But.of_ext ((Ext.refl _).alloc _) _), one_tm w2 w.heap.size 48 (q : Int) 0 false 0 0 (by have := HB2.out.size; omega) (by omega) (HK2.out.mono fun b _ hb => by omega)⟩)
    have t2 : ¬ ((0 : Int) < (pd : Int)) := by omega
    rw [if_neg hp1, sub_get (by omega), Nat.add_zero] at hmk
    have HMK := Lib.hid hmk
    have HBY := Lib.hid (hby a (by omega))
    clear hmk hby
    obtain ⟨b, off, rfl, hb, hc⟩ := Sts.all HW1.out (by omega)
    obtain ⟨k1, k2, k3, k4⟩ := hc a (by omega)
    have g0 := HF1.out.hd
    have t3 : (a : Int) < (n : Int) := by omega
    generalize hs : l.getD a st0 = s at *
    obtain ⟨s1, s2, s3, s4⟩ := s
    simp only at k1 k2 k3 k4
    have n1 : ((a : Int)).toNat = a := by omega
    go_wp2_with fail
    go_ret
    rw [HMK.out]
    exact ⟨_, tab1, rfl, HF1.out.ext ((Ext.refl _).alloc _), HO1.out, HBW.out.trans (But.of_ext ((Ext.refl _).alloc _) _), by
      rw [← hbz]
      exact one_tm wb w.heap.size 48 (m : Int) s1 s2 s3 s4 (by omega) HBY.out (TvK.none_ _ _ _)⟩
end Go.Proofs.Ytgbmeefcnjdjbaa
