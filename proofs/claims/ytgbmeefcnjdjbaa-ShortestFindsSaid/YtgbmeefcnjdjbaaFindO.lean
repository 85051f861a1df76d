/- The reference's list out of its table. -/
import Derived.Test.YtgbmeefcnjdjbaaFindK
import Derived.Test.YtgbmeefcnjdjbaaFindJ
namespace Go.Proofs.Ytgbmeefcnjdjbaa
set_option maxRecDepth 100000
set_option maxRecDepth 100000
open Go.RowKit Go.ChangeShapes Go.WideShapes Go.Joins
/-- what made has returned -/
def MadeR (T : TypeId) (t : Tms) (w : World) (e : Ending) (w' : World) : Prop := ∃ v, e = .returned v ∧ Ext w w' ∧ OwnT w' w.heap.size T v t.cnt t
/-- what was put together by two calls, appended -/
theorem step_append_both {P : Program} {ops : Array Oper} {E : Prop} {o : Oper} {a : Act} {K : Act → World → Prop} {Q : Exit → Act → World → Prop} {w w1 w2 wx : World} (T e : TypeId) (z : Value) (bytes : Nat) {s x : Operand} {v1 v2 : Value} {t r : Tms}
    (hgd : o.guard = none) (ho : o.op = .call { callee := .builtin .append, args := #[s, x], argTypes := #[T, T] })
    (ht : P.underlying T = some (.slice e)) (hinfo : (P.info? e).map (fun i => (i.zero, i.size, i.bytes)) = some (some z, 6, bytes)) (hzs : z.cells.size = 6) (hby : bytes ≤ 1000)
    (hs : a.eval s = v1) (hx : a.eval x = v2) (h1 : OwnT w2 w1.heap.size e v1 t.cnt t) (h2 : OwnT wx w2.heap.size e v2 r.cnt r) (b0 : Ext w w1) (b1 : Ext w1 w2) (b2 : Ext w2 wx) (hk : t.cnt + r.cnt ≤ 1000000)
    (h : ∀ v' w3, OwnT w3 w.heap.size e v' (t.cnt + r.cnt) (t.app r) → Hid (Ext w w3) → K (a.put o.dst v') w3) :
    if Region.wanted o (yielded ops a.tmps) = true then Oper.wp P o a wx K Q else E := by
  have hw : Region.wanted o (yielded ops a.tmps) = true := by simp [Region.wanted, hgd]
  rw [if_pos hw]
  obtain ⟨A, c, L, rfl, hL, hrc, hA⟩ := h2.lies
  have hob : ∀ b, w2.heap.size ≤ b → some b ≠ v1.ownBlock := fun b hb e9 => by
    obtain ⟨_, L1, hL1, _⟩ := h1
    have := (own_blk hL1 b e9.symm).2
    omega
  have hz0 := Below.size b0
  have hz1 := Below.size b1
  exact wp_append_tms (w := w) T e z bytes ho ht hinfo hzs hby hs hx ((h1.ext b2).low hz0) ((b0.trans b1).trans b2) rfl (hL.keep (Nat.le_refl _) fun b _ hb => ⟨⟨by omega, hob b hb.1⟩, fun _ => rfl⟩) hA hk h
set_option maxHeartbeats 8000000 in
theorem made_any (n c c' : Nat) (A A' : Option Addr) (l : List St) (hn : n ≤ 60) (hln : l.length = n) (hby : Bytes l) : ∀ (M a m : Nat) (w : World), m ≤ M → 1 ≤ m → a + m ≤ n → Vec shSt w A n l → TbR w A' (n + 1) l → ∀ (ai mi : Int), ai = (a : Int) → mi = (m : Int) →
    Calls Try.prog 11 #[.slice A n c, .slice A' (n + 1) c', .int .i64 ai, .int .i64 mi] w (MadeR 48 (mkT M (sub l a m)) w) := by
  intro M
  induction M with
  | zero => intro a m w h0 h1; omega
  | succ M ih =>
    intro a m w hM h1 ham hv ht ai mi hai hmi
    subst hai
    subst hmi
    have IH := Lib.hid ih
    have HV := Lib.hid hv
    have HT := Lib.hid ht
    have q0 : (0 : Int) ≤ (a : Int) := by omega
    have q2 : (0 : Int) ≤ (m : Int) := by omega
    have q3 : (m : Int) < (n : Int) + 1 := by omega
    have q4 : ((n + 1 : Nat) : Int) = (n : Int) + 1 := by omega
    have q5 : (a : Int) < (n : Int) := by omega
    have m0 : ((m : Int) == 0) = false := by rw [beq_eq_false_iff_ne]; omega
    have hsn := sub_ne (l := l) (a := a) (n := m) (by omega) h1
    have hsl := sub_len (l := l) (a := a) (n := m) (by omega)
    have hmd := ch_made hsn
    rw [hsl] at hmd
    obtain ⟨zt, hzt, hzs⟩ := info_tm
    have HZT := Lib.hid hzt
    have HZS := Lib.hid hzs
    obtain ⟨b1, off1, b2, off2, n', c2, rfl, hb1, d0, hjn, hb2, d1, d2, d3⟩ := ht.at_ (r := m) (i := a) h1 (by omega) (by omega)
    have q6 : (a : Int) < (n' : Int) := by omega
    have hmk : mkT (M + 1) (sub l a m) = if 0 < (ch (sub l a m)).part then (mkT M ((sub l a m).take (ch (sub l a m)).part)).app (mkT M ((sub l a m).drop (ch (sub l a m)).part)) else if 0 < (ch (sub l a m)).period then .cons (((sub l a m).length / (ch (sub l a m)).period : Nat) : Int) st0 (mkT M ((sub l a m).take (ch (sub l a m)).period)) .nil else .cons ((sub l a m).length : Int) ((sub l a m).getD 0 st0) .nil .nil := rfl
    obtain ⟨pt, hpt⟩ : ∃ x, (ch (sub l a m)).part = x := ⟨_, rfl⟩
    obtain ⟨pd, hpd⟩ : ∃ x, (ch (sub l a m)).period = x := ⟨_, rfl⟩
    obtain ⟨sz, hsz⟩ : ∃ x, (ch (sub l a m)).size = x := ⟨_, rfl⟩
    rw [hsz] at d1
    rw [hpd] at d2
    rw [hpt] at d3
    rw [hpt, hpd, hsl] at hmk
    rw [hpt, hpd] at hmd
    have hb : (pt < m ∧ pd < m) ∧ (0 < pd → pt = 0) := by
      rcases hmd with ⟨hx, -⟩ | ⟨h2, h3, h4, -⟩ | ⟨h2, h3, h4, -⟩
      · rw [hx] at hpt hpd
        simp only at hpt hpd
        omega
      · omega
      · omega
    clear ih hv ht hzt hzs hmd hpt hpd hsz
    by_cases hp1 : 0 < pd
    · rw [if_neg (by have := hb.2 hp1; omega), if_pos hp1, sub_take (by omega)] at hmk
      have HMK := Lib.hid hmk
      have t2 : ((0 : Int) < (pd : Int)) := by omega
      have k1 := mkT_cnt M (sub l a pd) (sub_ne (l := l) (by omega) (by omega)) (by rw [sub_len (by omega)]; omega)
      rw [sub_len (by omega)] at k1
      have tz : ¬ pd = 0 := by omega
      obtain ⟨q, hq⟩ : ∃ q, m / pd = q := ⟨_, rfl⟩
      have td2 : (m : Int) / (pd : Int) = (q : Int) := by rw [← hq]; rfl
      have td : (m : Int).tdiv (pd : Int) = (q : Int) := by rw [Int.tdiv_eq_ediv_of_nonneg (by omega)]; exact td2
      have hqm : q ≤ m := by rw [← hq]; exact Nat.div_le_self _ _
      have tw := IntWalk.i64_in (q : Int) (by omega)
      have HQ9 := Lib.hid hq
      clear hq hmk
      go_enter Try.func11, Try.ntmps11
      go_wp2_with fail
      generalize hwb : World.alloc w _ = wb
      have bz : wb.heap.size = w.heap.size + 1 := by rw [← hwb]; simp
      have e1 : wb.cell? ⟨w.heap.size, 1, none⟩ = some (.int .i64 (pd : Nat)) := by rw [← hwb]; simp [go_sem]
      have HEB := Lib.hid (show Ext w wb by rw [← hwb]; exact (Ext.refl _).alloc _)
      have HV1 := Lib.hid (HV.out.ext HEB.out)
      have HT1 := Lib.hid (HT.out.ext HEB.out)
      clear hwb d0 d1 d2 d3
      go_region_held3 (fun w' => w'.cell? ⟨w.heap.size, 1, none⟩ = some (.int .i64 (pd : Nat))) (go_keep)
        (first
          | (go_at_call 11; go_loud ((with_reducible refine (IH.out a pd _ (by omega) (by omega) (by omega) (HV1.out.ext (by repeat (first | exact Ext.refl _ | assumption | refine Ext.alloc ?_ _ | refine Ext.drew ?_ | refine Ext.drewN ?_ _ | refine Ext.trans ?_ (by assumption)))) (HT1.out.ext (by repeat (first | exact Ext.refl _ | assumption | refine Ext.alloc ?_ _ | refine Ext.drew ?_ | refine Ext.drewN ?_ _ | refine Ext.trans ?_ (by assumption)))) _ _ rfl rfl).mono ?_); rintro e w2 ⟨v1, rfl, he2, hw2⟩; obtain ⟨A2, c3, rfl, hk2⟩ := own_tms hw2 (by omega); have hq9 : Ext wb w2 := (by repeat (first | exact Ext.refl _ | assumption | refine Ext.alloc ?_ _ | refine Ext.drew ?_ | refine Ext.drewN ?_ _ | refine Ext.trans ?_ (by assumption))); have HB2 := Lib.hid hq9; obtain ⟨hf1, hf2, hf3⟩ := hq9.facts; have HK2 := Lib.hid (show TvK w2 (fun b => wb.heap.size ≤ b) A2 (mkT M (sub l a pd)).cnt (mkT M (sub l a pd)) from hk2); clear he2 hw2 hk2)))
      all_goals (go_wp2; go_ret; rw [HMK.out, HQ9.out]; exact ⟨_, rfl, Ext.alloc (Ext.trans HEB.out HB2.out) _, one_tm w2 w.heap.size 48 (q : Int) 0 false 0 0 (by have := Below.size HB2.out; omega) (by omega) (HK2.out.mono fun b _ hb => by omega)⟩)
    have t2 : ¬ ((0 : Int) < (pd : Int)) := by omega
    by_cases hp0 : 0 < pt
    · rw [if_pos hp0, sub_take (by omega), sub_drop (by omega)] at hmk
      have hx1 := sub_ne (l := l) (a := a) (n := pt) (by omega) (by omega)
      have hx2 := sub_ne (l := l) (a := a + pt) (n := m - pt) (by omega) (by omega)
      have k1 := mkT_cnt M (sub l a pt) hx1 (by rw [sub_len (by omega)]; omega)
      have k2 := mkT_cnt M (sub l (a + pt) (m - pt)) hx2 (by rw [sub_len (by omega)]; omega)
      rw [sub_len (by omega)] at k1 k2
      have HMK := Lib.hid hmk
      have t1 : ((0 : Int) < (pt : Int)) := by omega
      have i1 := IntWalk.i64_in ((a : Int) + (pt : Int)) (by omega)
      have i2 := IntWalk.i64_in ((m : Int) - (pt : Int)) (by omega)
      have E3 := Lib.hid (show (a : Int) + (pt : Int) = ((a + pt : Nat) : Int) by omega)
      have E4 := Lib.hid (show (m : Int) - (pt : Int) = ((m - pt : Nat) : Int) by omega)
      clear hmk hx1 hx2
      go_enter Try.func11, Try.ntmps11
      go_wp2_with fail
      generalize hwb : World.alloc w _ = wb
      have bz : wb.heap.size = w.heap.size + 1 := by rw [← hwb]; simp
      have e1 : wb.cell? ⟨w.heap.size, 1, none⟩ = some (.int .i64 (pd : Nat)) := by rw [← hwb]; simp [go_sem]
      have e2 : wb.cell? ⟨w.heap.size, 2, none⟩ = some (.int .i64 (pt : Nat)) := by rw [← hwb]; simp [go_sem]
      have HEB := Lib.hid (show Ext w wb by rw [← hwb]; exact (Ext.refl _).alloc _)
      have HV1 := Lib.hid (HV.out.ext HEB.out)
      have HT1 := Lib.hid (HT.out.ext HEB.out)
      clear hwb d0 d1 d2 d3
      go_region_held3 (fun w' => w'.cell? ⟨w.heap.size, 2, none⟩ = some (.int .i64 (pt : Nat))) (go_keep)
        (first
          | (go_at_call 11; (first
            | ((with_reducible refine (IH.out (a + pt) (m - pt) _ (by omega) (by omega) (by omega) (HV1.out.ext (HB2.out.trans (by repeat (first | exact Ext.refl _ | assumption | refine Ext.alloc ?_ _ | refine Ext.drew ?_ | refine Ext.drewN ?_ _ | refine Ext.trans ?_ (by assumption))))) (HT1.out.ext (HB2.out.trans (by repeat (first | exact Ext.refl _ | assumption | refine Ext.alloc ?_ _ | refine Ext.drew ?_ | refine Ext.drewN ?_ _ | refine Ext.trans ?_ (by assumption))))) _ _ E3.out E4.out).mono ?_); rintro e w3 ⟨v2, rfl, he3, hw3⟩; have hq8 : Ext w2 w3 := (by repeat (first | exact Ext.refl _ | assumption | refine Ext.alloc ?_ _ | refine Ext.drew ?_ | refine Ext.drewN ?_ _ | refine Ext.trans ?_ (by assumption))); have HB3 := Lib.hid hq8; have hq9 := HB2.out.trans hq8; obtain ⟨hf4, hf5, hf6⟩ := hq9.facts; have HN3 := Lib.hid (show OwnT w3 w2.heap.size 48 v2 (mkT M (sub l (a + pt) (m - pt))).cnt (mkT M (sub l (a + pt) (m - pt))) from hw3); clear he3 hw3)
            | (go_loud ((with_reducible refine (IH.out a pt _ (by omega) (by omega) (by omega) (HV1.out.ext (by repeat (first | exact Ext.refl _ | assumption | refine Ext.alloc ?_ _ | refine Ext.drew ?_ | refine Ext.drewN ?_ _ | refine Ext.trans ?_ (by assumption)))) (HT1.out.ext (by repeat (first | exact Ext.refl _ | assumption | refine Ext.alloc ?_ _ | refine Ext.drew ?_ | refine Ext.drewN ?_ _ | refine Ext.trans ?_ (by assumption)))) _ _ rfl rfl).mono ?_); rintro e w2 ⟨v1, rfl, he2, hw2⟩; have hq7 : Ext wb w2 := (by repeat (first | exact Ext.refl _ | assumption | refine Ext.alloc ?_ _ | refine Ext.drew ?_ | refine Ext.drewN ?_ _ | refine Ext.trans ?_ (by assumption))); have HB2 := Lib.hid hq7; obtain ⟨hf1, hf2, hf3⟩ := hq7.facts; have HN2 := Lib.hid (show OwnT w2 wb.heap.size 48 v1 (mkT M (sub l a pt)).cnt (mkT M (sub l a pt)) from hw2); clear he2 hw2))))
          | (refine step_append_both (w := wb) (w1 := wb) 23 48 zt 56 (by rfl) (by rfl) Try.underlying23 HZT.out HZS.out (by omega) (by rfl) (by rfl) HN2.out HN3.out (Ext.refl _) HB2.out HB3.out (by omega) ?_; intro v' w4 hown4 hext4; obtain ⟨hf7, hf8, hf9⟩ := hext4.out.facts))
      all_goals (go_wp2; go_ret; rw [HMK.out]; exact ⟨_, rfl, HEB.out.trans hext4.out, by rw [app_cnt]; exact hown4.low (by omega)⟩)
    have t1 : ¬ ((0 : Int) < (pt : Int)) := by omega
    rw [if_neg hp0, if_neg hp1, sub_get (by omega), Nat.add_zero] at hmk
    have HMK := Lib.hid hmk
    have HBY := Lib.hid (hby a (by omega))
    clear hmk hby
    obtain ⟨b, off, rfl, hb, hc⟩ := Sts.all HV.out (by omega)
    obtain ⟨k1, k2, k3, k4⟩ := hc a (by omega)
    generalize hs : l.getD a st0 = s at *
    obtain ⟨s1, s2, s3, s4⟩ := s
    simp only at k1 k2 k3 k4
    go_enter Try.func11, Try.ntmps11
    go_wp2_with fail
    go_ret
    rw [HMK.out]
    refine ⟨_, rfl, Ext.alloc (Ext.alloc (Ext.refl _) _) _, ?_⟩
    have h9 := one_tm (cap := 0) (w.alloc (.cells #[.int .i64 (sz : Nat), .int .i64 (pd : Nat), .int .i64 (pt : Nat)] 57)) w.heap.size 48 (m : Int) s1 s2 s3 s4 (by simp) HBY.out (TvK.none_ _ _ none)
    rw [show (w.alloc (.cells #[.int .i64 (sz : Nat), .int .i64 (pd : Nat), .int .i64 (pt : Nat)] 57)).heap.size = w.heap.size + 1 by simp] at h9
    exact h9
theorem made_nil (c : Nat) (A A' : Option Addr) (c' : Nat) (w : World) (ht : TbR w A' (0 + 1) []) :
    Calls Try.prog 11 #[.slice A 0 c, .slice A' (0 + 1) c', .int .i64 0, .int .i64 0] w fun e w' => e = .returned (.slice none 0 0) ∧ Ext w w' := by
  obtain ⟨b1, off1, b2, off2, n', c2, rfl, hb1, d0, hjn, hb2, d1, d2, d3⟩ := ht.get (r := 0) (i := 0) (x := ⟨0, 0, 0⟩) (by omega) rfl
  have q6 : (0 : Int) < (n' : Int) := by omega
  rw [Nat.add_zero] at d0
  rw [Nat.zero_mul] at d1 d2 d3
  rw [Nat.add_zero] at d1 d2 d3
  clear ht
  go_enter Try.func11, Try.ntmps11
  go_wp2_with fail
  go_ret
  exact ⟨rfl, by repeat (first | exact Ext.refl _ | assumption | refine Ext.alloc ?_ _ | refine Ext.drew ?_ | refine Ext.drewN ?_ _ | refine Ext.trans ?_ (by assumption))⟩
end Go.Proofs.Ytgbmeefcnjdjbaa
