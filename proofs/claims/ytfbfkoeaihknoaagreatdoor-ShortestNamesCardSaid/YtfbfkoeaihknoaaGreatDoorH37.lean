/- The reference's Parse of terms: it returns what Parse returns. -/
import Derived.Test.YtfbfkoeaihknoaaGreatDoorH26
import Derived.Test.YtfbfkoeaihknoaaGreatDoorH29
import Derived.Test.YtfbfkoeaihknoaaGreatDoorH36
import Derived.Test.YtfbfkoeaihknoaaGreatDoorH24
import Derived.Test.YtfbfkoeaihknoaaGreatDoorH02
import Derived.Test.YtfbfkoeaihknoaaGreatDoorTie
namespace Go.Proofs.YtfbfkoeaihknoaaGreatDoor
set_option maxRecDepth 100000
set_option maxRecDepth 100000
open Go.RowKit Go.ChangeShapes Go.WideShapes Go.Joins
/-- what is read is no larger than its text -/
theorem rl_size : ∀ f, (∀ d k s t, rlL f d k s = some t → t.size ≤ s.length) ∧ (∀ d s n c g, rlT f d s = some (n, c, g) → 1 + g.size ≤ s.length) ∧ (∀ d m s n c g, rlB f d m s = some (n, c, g) → 1 + g.size ≤ s.length) := by
  intro f
  induction f with
  | zero =>
    refine ⟨fun d k s t h => ?_, fun d s n c g h => ?_, fun d m s n c g h => ?_⟩
    · rw [rlL] at h; cases h
    · rw [rlT] at h; cases h
    · rw [rlB] at h; cases h
  | succ f ih =>
    obtain ⟨ihL, ihT, ihB⟩ := ih
    refine ⟨fun d k s t h => ?_, fun d s n c g h => ?_, fun d m s n c g h => ?_⟩
    · rw [rlL] at h
      have hap := congrArg List.length (endP_app s 0)
      rw [List.length_append] at hap
      split at h
      · cases h
      · rename_i n c g hT
        have h1 := ihT _ _ _ _ _ hT
        split at h
        · cases h
        · split at h
          · cases h
            simp only [Tms.size]
            omega
          · rename_i x s2 hy
            rw [hy, List.length_cons] at hap
            split at h
            · obtain ⟨r, h9, rfl⟩ := Option.map_eq_some_iff.1 h
              have h2 := ihL _ _ _ _ h9
              simp only [Tms.size]
              omega
            · cases h
    · rw [rlT] at h
      split at h
      · split at h
        · cases h
        · split at h
          · cases h
          · have h1 := ihB _ _ _ _ _ _ h
            have h2 := congrArg List.length (cutD_all s)
            rw [List.length_append] at h2
            rw [List.length_dropLast] at h1
            omega
      · exact ihB _ _ _ _ _ _ h
    · rw [rlB] at h
      split at h
      · rename_i h0
        split at h
        · cases h
        · obtain ⟨r, h9, e⟩ := Option.map_eq_some_iff.1 h
          cases e
          have h1 := ihL _ _ _ _ h9
          rw [List.length_dropLast, List.length_drop] at h1
          have := h0.1
          omega
      · split at h
        · rename_i c' hp
          cases h
          have h1 := parse_ne hp
          have h2 := List.length_pos_iff.2 h1
          simp only [Tms.size]
          omega
        · cases h
theorem listP_size {f d : Nat} {s : List UInt8} {t : Tms} (h : listP f d s = some t) : t.size ≤ s.length := by
  unfold listP at h
  split at h
  · cases h
    simp [Tms.size]
  · exact (rl_size f).1 _ _ _ _ h
set_option maxHeartbeats 4000000 in
theorem rtparse_any (s : List UInt8) (hl0 : s.length ≤ 10000) (w : World) : Calls Tryz.prog 13 #[.string ⟨s.toArray⟩] w (PTR s w) := by
  have hpe := (rparseT_eq at_hat s).symm
  by_cases h3 : 3000 < s.length
  · have hN := Lib.hid (show parseT atoiO s = none by rw [hpe, rparseT, if_pos h3])
    have q1 : (3000 : Int) < (s.length : Int) := by omega
    clear hpe
    go_enter Tryz.func13, Tryz.ntmps13
    go_wp2_with fail
    go_ret2
    exact PTR.no hN.out (by repeat (first | exact Ext.refl _ | assumption | refine Ext.alloc ?_ _ | refine Ext.drew ?_ | refine Ext.drewN ?_ _ | refine Ext.trans ?_ (by assumption)))
  have q1 : ¬ ((3000 : Int) < (s.length : Int)) := by omega
  have hpe2 : parseT atoiO s = (listP (3 * s.length + 3) 8 s).bind fun t => if tchkE t = 0 ∧ wT t = s then some t else none := by rw [hpe, rparseT, if_neg h3]; rfl
  have HLI := Lib.hid (fun (w' : World) => rlist_any (3 * s.length + 3) 8 s w' 8 rfl (by omega) hl0 (Nat.le_refl _))
  clear hpe
  cases hq : listP (3 * s.length + 3) 8 s with
  | none =>
    have hN := Lib.hid (show parseT atoiO s = none by rw [hpe2, hq]; rfl)
    have HQ := Lib.hid hq
    clear hpe2 hq
    go_enter Tryz.func13, Tryz.ntmps13
    go_wp2_with (first
      | (go_at_call 34; go_loud ((with_reducible refine (HLI.out _).mono ?_); rintro e w1 ⟨hb, hn, -⟩; have h9 := hn HQ.out; subst h9; have HB := Lib.hid hb; clear hb hn)))
    go_ret2
    exact PTR.no hN.out HB.out
  | some t =>
    have hts := listP_size hq
    have htc := listP_len hq
    have HQ := Lib.hid hq
    rw [hq, Option.bind_some] at hpe2
    have HCK := Lib.hid (fun (A : Option Addr) (n cap : Nat) (w' : World) (hv : Tv w' A n t) => trcheck_any t (by omega) A n cap w' hv)
    have HLI2 := Lib.hid (fun (w' : World) => (show Calls Tryz.prog 34 #[.string ⟨s.toArray⟩, .int .i64 8] w' (fun e w'' => ∃ A c, e = .returned (.tuple #[.slice A t.cnt c, .bool true]) ∧ Ext w' w'' ∧ OwnT w'' w'.heap.size 48 (.slice A t.cnt c) t.cnt t) from by
      refine (HLI.out w').mono ?_
      rintro e w1 ⟨hb, -, hy⟩
      obtain ⟨v, rfl, ho⟩ := hy t HQ.out
      obtain ⟨A, c, rfl, -⟩ := own_tms ho (by omega)
      exact ⟨A, c, rfl, hb, ho⟩))
    clear hq HLI
    obtain ⟨X, hX⟩ : ∃ X, tchkE t = X := ⟨_, rfl⟩
    have HX := Lib.hid hX
    by_cases h0 : X = 0
    · have hft := (tchk_parts (hX.trans h0)).2.2
      have HWR := Lib.hid (fun (A : Option Addr) (n cap : Nat) (w' : World) (hv : Tv w' A n t) => twritten_any 5000 (Nat.le_refl _) t (by omega) hft A n cap w' hv)
      obtain ⟨T, hT⟩ : ∃ T, wT t = T := ⟨_, rfl⟩
      rw [hX, hT] at hpe2
      have HTT := Lib.hid hT
      clear hX hT hft
      subst h0
      by_cases h1 : T = s
      · subst h1
        have hN := Lib.hid (show parseT atoiO T = some t by rw [hpe2]; simp)
        clear hpe2
        go_enter Tryz.func13, Tryz.ntmps13
        go_wp2_with (first
          | (go_at_call 34; go_loud ((with_reducible refine (HLI2.out _).mono ?_); rintro e w1 ⟨A, c, rfl, hq1, ho⟩; have HO := Lib.hid ho; have HV := Lib.hid ((own_tv ho (by omega))); clear ho))
          | (go_at_call 31; go_loud ((with_reducible refine (HCK.out _ _ _ _ (HV.out.ext (by repeat (first | exact Ext.refl _ | assumption | refine Ext.alloc ?_ _ | refine Ext.drew ?_ | refine Ext.drewN ?_ _ | refine Ext.trans ?_ (by assumption))))).mono ?_); rintro e w2 ⟨rfl, hq2⟩; rw [HX.out]))
          | (go_at_call 32; go_loud ((with_reducible refine (HWR.out _ _ _ _ (HV.out.ext (by repeat (first | exact Ext.refl _ | assumption | refine Ext.alloc ?_ _ | refine Ext.drew ?_ | refine Ext.drewN ?_ _ | refine Ext.trans ?_ (by assumption))))).mono ?_); rintro e w3 ⟨rfl, hq3⟩; rw [HTT.out])))
        go_ret2
        exact PTR.yes hN.out (by repeat (first | exact Ext.refl _ | assumption | refine Ext.alloc ?_ _ | refine Ext.drew ?_ | refine Ext.drewN ?_ _ | refine Ext.trans ?_ (by assumption))) (HO.out.ext (by repeat (first | exact Ext.refl _ | assumption | refine Ext.alloc ?_ _ | refine Ext.drew ?_ | refine Ext.drewN ?_ _ | refine Ext.trans ?_ (by assumption))))
      · have hN := Lib.hid (show parseT atoiO s = none by rw [hpe2]; simp [h1])
        have hne : (T == s) = false := by simpa using h1
        have hne2 : (T != s) = true := by simpa using h1
        clear hpe2 h1
        go_enter Tryz.func13, Tryz.ntmps13
        go_wp2_with (first
          | (go_at_call 34; go_loud ((with_reducible refine (HLI2.out _).mono ?_); rintro e w1 ⟨A, c, rfl, hq1, ho⟩; have HO := Lib.hid ho; have HV := Lib.hid ((own_tv ho (by omega))); clear ho))
          | (go_at_call 31; go_loud ((with_reducible refine (HCK.out _ _ _ _ (HV.out.ext (by repeat (first | exact Ext.refl _ | assumption | refine Ext.alloc ?_ _ | refine Ext.drew ?_ | refine Ext.drewN ?_ _ | refine Ext.trans ?_ (by assumption))))).mono ?_); rintro e w2 ⟨rfl, hq2⟩; rw [HX.out]))
          | (go_at_call 32; go_loud ((with_reducible refine (HWR.out _ _ _ _ (HV.out.ext (by repeat (first | exact Ext.refl _ | assumption | refine Ext.alloc ?_ _ | refine Ext.drew ?_ | refine Ext.drewN ?_ _ | refine Ext.trans ?_ (by assumption))))).mono ?_); rintro e w3 ⟨rfl, hq3⟩; rw [HTT.out])))
        go_ret2
        exact PTR.no hN.out (by repeat (first | exact Ext.refl _ | assumption | refine Ext.alloc ?_ _ | refine Ext.drew ?_ | refine Ext.drewN ?_ _ | refine Ext.trans ?_ (by assumption)))
    · rw [hX] at hpe2
      have hN := Lib.hid (show parseT atoiO s = none by rw [hpe2]; simp [h0])
      have hne : (X != 0) = true := by simpa using h0
      clear hpe2 h0 hX
      go_enter Tryz.func13, Tryz.ntmps13
      go_wp2_with (first
        | (go_at_call 34; go_loud ((with_reducible refine (HLI2.out _).mono ?_); rintro e w1 ⟨A, c, rfl, hq1, ho⟩; have HO := Lib.hid ho; have HV := Lib.hid ((own_tv ho (by omega))); clear ho))
        | (go_at_call 31; go_loud ((with_reducible refine (HCK.out _ _ _ _ (HV.out.ext (by repeat (first | exact Ext.refl _ | assumption | refine Ext.alloc ?_ _ | refine Ext.drew ?_ | refine Ext.drewN ?_ _ | refine Ext.trans ?_ (by assumption))))).mono ?_); rintro e w2 ⟨rfl, hq2⟩; rw [HX.out])))
      go_ret2
      exact PTR.no hN.out (by repeat (first | exact Ext.refl _ | assumption | refine Ext.alloc ?_ _ | refine Ext.drew ?_ | refine Ext.drewN ?_ _ | refine Ext.trans ?_ (by assumption)))
end Go.Proofs.YtfbfkoeaihknoaaGreatDoor
/- What Parse returns, in values; it is not great. -/
namespace Go.Proofs.YtfbfkoeaihknoaaGreatDoor
set_option maxRecDepth 100000
open Go.RowKit Go.ChangeShapes Go.WideShapes Go.Joins
def ptT (s : List UInt8) : Tms := (parseT atoiO s).getD .nil
def ptE (s : List UInt8) : Int := if (parseT atoiO s).isSome = true then 0 else 12
theorem pt_none {s : List UInt8} (h : parseT atoiO s = none) : ptT s = .nil ∧ ptE s = 12 := by
  unfold ptT ptE
  rw [h]
  exact ⟨rfl, rfl⟩
theorem pt_some {s : List UInt8} {t : Tms} (h : parseT atoiO s = some t) : ptT s = t ∧ ptE s = 0 := by
  unfold ptT ptE
  rw [h]
  exact ⟨rfl, rfl⟩
theorem ptr_c {s : List UInt8} {w w' : World} {e : Ending} (h : PTR s w e w') : ∃ (A : Option Addr) (n c : Nat), e = .returned (.tuple #[.slice A n c, .int .i64 (ptE s)]) ∧ Ext w w' ∧ Tv w' A n (ptT s) := by
  obtain ⟨v, x, rfl, hb, h | ⟨t, hp, rfl, ho⟩⟩ := h
  · obtain ⟨hp, rfl, rfl⟩ := h
    obtain ⟨e1, e2⟩ := pt_none hp
    rw [e1, e2]
    exact ⟨none, 0, 0, rfl, hb, (TvK.none_ _ (fun _ => True) _).tv⟩
  · obtain ⟨e1, e2⟩ := pt_some hp
    obtain ⟨h1, h2, h3⟩ := (parseT_iff at_hat).1 hp
    have h4 := (tchk_parts h2).1
    have h5 := cnt_size t
    obtain ⟨A, c, rfl, hv⟩ := own_tms ho (by omega)
    rw [e1, e2]
    exact ⟨A, _, c, rfl, hb, hv.tv⟩
theorem manyG_eq {f : Tms → Int} (m : Nat) (hf : ∀ g : Tms, g.depth ≤ m → g.size ≤ 250 → f g = g.size) : ∀ (t : Tms) (n : Int), 0 ≤ n → t.depth ≤ m + 1 → n + t.size ≤ 250 → manyG f n t = n + t.size := by
  intro t
  induction t with
  | nil => intro n _ _ _; simp [manyG, Tms.size]
  | cons N c g r _ ih =>
    intro n hn hd h
    simp only [Tms.size, Tms.depth] at hd h ⊢
    rw [manyG, if_pos (by omega), hf g (by omega) (by omega), ih _ (by omega) (by omega) (by omega)]
    omega
theorem manyT_eq : ∀ (d : Nat) (t : Tms), t.depth ≤ d → t.size ≤ 250 → manyT d t = t.size := by
  intro d
  induction d with
  | zero =>
    intro t h _
    cases t with
    | nil => rfl
    | cons N c g r => simp only [Tms.depth] at h; omega
  | succ d ih =>
    intro t h1 h2
    rw [manyT, manyG_eq d ih t 0 (Int.le_refl _) h1 (by omega)]
    omega
theorem great_no {t : Tms} (h : tchkE t = 0) : greatT t = false := by
  obtain ⟨h1, h2, _⟩ := tchk_parts h
  unfold greatT
  rw [manyT_eq 12 t (by omega) (by omega)]
  exact decide_eq_false (by omega)
theorem pt_fine (s : List UInt8) : (ptT s).size ≤ 200 ∧ greatT (ptT s) = false := by
  cases hp : parseT atoiO s with
  | none =>
    rw [(pt_none hp).1]
    exact ⟨by simp [Tms.size], rfl⟩
  | some t =>
    obtain ⟨h1, h2, h3⟩ := (parseT_iff at_hat).1 hp
    rw [(pt_some hp).1]
    exact ⟨(tchk_parts h2).1, great_no h2⟩
theorem pt_text {t : Tms} (h : ttextE t = 0) : ptT (ttextV t) = t ∧ ptE (ttextV t) = 0 ∧ tchkE t = 0 ∧ (ttextV t).length ≤ 3000 := by
  have hc : tchkE t = 0 := by
    apply Classical.byContradiction
    intro h9
    rw [ttextE] at h
    split at h
    · exact h9 h
    · rename_i h8
      exact h9 (Classical.not_not.1 (by simpa using h8))
  have hl : (wT t).length ≤ 3000 := by
    rw [ttextE] at h
    split at h
    · rename_i h8
      exact absurd hc h8
    · split at h
      · cases h
      · omega
  have hv : ttextV t = wT t := by rw [ttextV, if_pos h]
  rw [hv]
  have hp : parseT atoiO (wT t) = some t := (parseT_iff at_hat).2 ⟨hl, hc, rfl⟩
  exact ⟨(pt_some hp).1, (pt_some hp).2, hc, hl⟩
theorem pt_back {s : List UInt8} {t : Tms} (h : parseT atoiO s = some t) : ttextE t = 0 ∧ ttextV t = s := by
  obtain ⟨h1, h2, h3⟩ := (parseT_iff at_hat).1 h
  have he : ttextE t = 0 := by
    rw [ttextE, if_neg (by simp [h2]), if_neg (by rw [h3]; omega)]
  exact ⟨he, by rw [ttextV, if_pos he, h3]⟩
end Go.Proofs.YtfbfkoeaihknoaaGreatDoor
/- The finder of the shortest list: the walk of list. -/
namespace Go.Proofs.YtfbfkoeaihknoaaGreatDoor
set_option maxRecDepth 100000
set_option maxRecDepth 100000
open Go.RowKit Go.ChangeShapes Go.WideShapes Go.Joins
set_option maxHeartbeats 8000000 in
theorem list_any (g n c : Nat) (A : Option Addr) (l : List St) (hn : n ≤ 60) (hln : l.length = n) (hby : Bytes l) (hne : ∀ b off, A = some ⟨b, off, none⟩ → b ≠ g) : ∀ (M a m : Nat) (tab : Nat → Nat → Chc) (w : World), m ≤ M → 1 ≤ m → a + m ≤ n → Vec shSt w A n l → FAt w g n c A tab → (∀ N, TabOk l tab N) → ∀ (ai mi : Int), ai = (a : Int) → mi = (m : Int) →
    Calls Tryz.prog 41 #[.pointer (some ⟨g, 0, none⟩), .int .i64 ai, .int .i64 mi] w (ListR l g n c A 48 (mkT M (sub l a m)) w) := by
  intro M
  induction M with
  | zero => intro a m tab w h0 h1; omega
  | succ M ih =>
    intro a m tab w hM h1 ham hv ht hok ai mi hai hmi
    subst hai
    subst hmi
    have IH := Lib.hid ih
    have HV := Lib.hid hv
    have HT := Lib.hid ht
    have HOK := Lib.hid hok
    have ha : a < 60 := by omega
    have hm : m ≤ 60 := by omega
    have q0 : (0 : Int) ≤ (a : Int) := by omega
    have q1 : (a : Int) < 60 := by omega
    have q2 : (0 : Int) ≤ (m : Int) := by omega
    have q3 : (m : Int) < 61 := by omega
    have hsn := sub_ne (l := l) (a := a) (n := m) (by omega) h1
    have hsl := sub_len (l := l) (a := a) (n := m) (by omega)
    have hmd := ch_made hsn
    rw [hsl] at hmd
    obtain ⟨zt, hzt, hzs⟩ := info_tm
    have HZT := Lib.hid hzt
    have HZS := Lib.hid hzs
    clear ih hv ht hok hzt hzs
    go_enter Tryz.func41, Tryz.ntmps41
    go_upto_region 3 with (first
      | (go_at_call 60; go_loud ((with_reducible refine (least_any g n c A l hn hln hne m a m tab _ (Nat.le_refl _) h1 ham HV.out HT.out (HOK.out m) _ _ rfl rfl).mono ?_); rintro e w1 ⟨tab1, rfl, hq⟩; have HQ := Lib.hid hq; have c0 := hq.at_.tb a m 0 ha hm (by omega); have c1 := hq.at_.tb a m 1 ha hm (by omega); have c2 := hq.at_.tb a m 2 ha hm (by omega); rw [hq.it] at c0 c1 c2; rw [Nat.add_zero] at c0; have z1 := hq.at_.lt; clear hq)))
    have hmk : mkT (M + 1) (sub l a m) = if 0 < (ch (sub l a m)).part then (mkT M ((sub l a m).take (ch (sub l a m)).part)).app (mkT M ((sub l a m).drop (ch (sub l a m)).part)) else if 0 < (ch (sub l a m)).period then .cons (((sub l a m).length / (ch (sub l a m)).period : Nat) : Int) st0 (mkT M ((sub l a m).take (ch (sub l a m)).period)) .nil else .cons ((sub l a m).length : Int) ((sub l a m).getD 0 st0) .nil .nil := rfl
    obtain ⟨pt, hpt⟩ : ∃ x, (ch (sub l a m)).part = x := ⟨_, rfl⟩
    obtain ⟨pd, hpd⟩ : ∃ x, (ch (sub l a m)).period = x := ⟨_, rfl⟩
    have e1 : fld (ch (sub l a m)) 1 = pd := hpd
    have e2 : fld (ch (sub l a m)) 2 = pt := hpt
    rw [e1] at c1
    rw [e2] at c2
    rw [e1, e2]
    rw [hpt, hpd, hsl] at hmk
    rw [hpt, hpd] at hmd
    generalize hwb : World.alloc w1 _ = wb
    have hbz : wb.heap.size = w1.heap.size + 1 := by rw [← hwb]; simp
    have b1 : wb.cell? ⟨w1.heap.size, 1, none⟩ = some (.int .i64 (pd : Nat)) := by rw [← hwb]; simp [go_sem]
    have b2 : wb.cell? ⟨w1.heap.size, 2, none⟩ = some (.int .i64 (pt : Nat)) := by rw [← hwb]; simp [go_sem]
    have HEB := Lib.hid (show Ext w1 wb by rw [← hwb]; exact (Ext.refl _).alloc _)
    clear hwb c0 c1 c2
    have hb : (pt < m ∧ pd < m) := by
      rcases hmd with ⟨hx, -⟩ | ⟨h2, h3, h4, -⟩ | ⟨h2, h3, h4, -⟩
      · rw [hx] at hpt hpd
        simp only at hpt hpd
        omega
      · omega
      · omega
    have hd2 : 0 < pd → 2 ≤ pd := by
      rcases hmd with ⟨hx, -⟩ | ⟨h2, h3, h4, -⟩ | ⟨h2, h3, h4, -⟩
      · rw [hx] at hpd
        simp only at hpd
        omega
      · omega
      · omega
    have HW1 := Lib.hid (show Vec shSt wb A n l from (HV.out.far HQ.out.but hne).ext HEB.out)
    have HO1 := Lib.hid (HQ.out.all HOK.out)
    have HF1 := Lib.hid (HQ.out.at_.ext HEB.out)
    have hgw : g < w.heap.size := HT.out.lt
    have hw1 : w.heap.size ≤ w1.heap.size := HQ.out.but.size
    have HBW := Lib.hid (HQ.out.but.trans (But.of_ext HEB.out _))
    clear hmd hpt hpd e1 e2
    by_cases hp0 : 0 < pt
    · rw [if_pos hp0, sub_take (by omega), sub_drop (by omega)] at hmk
      have hx1 := sub_ne (l := l) (a := a) (n := pt) (by omega) (by omega)
      have hx2 := sub_ne (l := l) (a := a + pt) (n := m - pt) (by omega) (by omega)
      have k1 := mkT_cnt M (sub l a pt) hx1 (by rw [sub_len (by omega)]; omega)
      have k2 := mkT_cnt M (sub l (a + pt) (m - pt)) hx2 (by rw [sub_len (by omega)]; omega)
      rw [sub_len (by omega)] at k1 k2
      have HMK := Lib.hid hmk
      have t1 : ((0 : Int) < (pt : Int)) := by omega
      have i1 := IntWalk.i64_in ((a : Int) + (pt : Int)) (by omega)
      have i2 := IntWalk.i64_in ((m : Int) - (pt : Int)) (by omega)
      clear hmk hx1 hx2
      have E3 := Lib.hid (show (a : Int) + (pt : Int) = ((a + pt : Nat) : Int) by omega)
      have E4 := Lib.hid (show (m : Int) - (pt : Int) = ((m - pt : Nat) : Int) by omega)
      clear b1
      go_upto_region 4 with fail
      go_region_held3 (fun w' => w'.cell? ⟨w1.heap.size, 2, none⟩ = some (.int .i64 (pt : Nat))) (go_keep)
        (first
          | (go_at_call 41; (first
            | ((with_reducible refine (IH.out (a + pt) (m - pt) _ _ (by omega) (by omega) (by omega) (HV2.out.ext (by repeat (first | exact Ext.refl _ | assumption | refine Ext.alloc ?_ _ | refine Ext.drew ?_ | refine Ext.drewN ?_ _ | refine Ext.trans ?_ (by assumption)))) (HF2.out.ext (by repeat (first | exact Ext.refl _ | assumption | refine Ext.alloc ?_ _ | refine Ext.drew ?_ | refine Ext.drewN ?_ _ | refine Ext.trans ?_ (by assumption)))) HO2.out _ _ E3.out E4.out).mono ?_); rintro e w3 ⟨v2, tab3, rfl, hf3, ho3, hb3, hw3⟩; have HF3 := Lib.hid hf3; have HO3 := Lib.hid ho3; have HB3 := Lib.hid ((But.of_ext (by repeat (first | exact Ext.refl _ | assumption | refine Ext.alloc ?_ _ | refine Ext.drew ?_ | refine Ext.drewN ?_ _ | refine Ext.trans ?_ (by assumption))) (some g)).trans hb3 : But (some g) w2 w3); have HN3 := Lib.hid (show OwnT w3 w2.heap.size 48 v2 (mkT M (sub l (a + pt) (m - pt))).cnt (mkT M (sub l (a + pt) (m - pt))) from hw3); have b4 := (But.cell (p := ⟨w1.heap.size, 2, none⟩) HB3.out (by have := HB2.out.size; show w1.heap.size < w2.heap.size; omega) (by intro e9; have e8 : w1.heap.size = g := (by simpa using e9); omega)).trans b3; clear hf3 ho3 hb3 hw3)
            | (go_loud ((with_reducible refine (IH.out a pt _ _ (by omega) (by omega) (by omega) (HW1.out.ext (by repeat (first | exact Ext.refl _ | assumption | refine Ext.alloc ?_ _ | refine Ext.drew ?_ | refine Ext.drewN ?_ _ | refine Ext.trans ?_ (by assumption)))) (HF1.out.ext (by repeat (first | exact Ext.refl _ | assumption | refine Ext.alloc ?_ _ | refine Ext.drew ?_ | refine Ext.drewN ?_ _ | refine Ext.trans ?_ (by assumption)))) HO1.out _ _ rfl rfl).mono ?_); rintro e w2 ⟨v1, tab2, rfl, hf2, ho2, hb2, hw2⟩; have HF2 := Lib.hid hf2; have HO2 := Lib.hid ho2; have HB2 := Lib.hid ((But.of_ext (by repeat (first | exact Ext.refl _ | assumption | refine Ext.alloc ?_ _ | refine Ext.drew ?_ | refine Ext.drewN ?_ _ | refine Ext.trans ?_ (by assumption))) (some g)).trans hb2 : But (some g) wb w2); have HV2 := Lib.hid (HW1.out.far HB2.out hne); have HN2 := Lib.hid (show OwnT w2 wb.heap.size 48 v1 (mkT M (sub l a pt)).cnt (mkT M (sub l a pt)) from hw2); have b3 := (But.cell (p := ⟨w1.heap.size, 2, none⟩) HB2.out (by show w1.heap.size < wb.heap.size; omega) (by intro e9; have e8 : w1.heap.size = g := (by simpa using e9); omega)).trans b2; clear hf2 ho2 hb2 hw2))))
          | (refine step_append_two (g := g) 22 48 zt 56 (by rfl) (by rfl) Tryz.underlying22 HZT.out HZS.out (by omega) (by rfl) (by rfl) HN2.out HN3.out HB2.out HB3.out (by omega) (by omega) ?_; intro v' w4 hown4 hbut4 hkeep4; have b5 := (But.cell (p := ⟨w1.heap.size, 2, none⟩) hbut4.out (by show w1.heap.size < wb.heap.size; omega) (by intro e9; have e8 : w1.heap.size = g := (by simpa using e9); omega)).trans b2))
      go_wp2
      go_ret
      rw [HMK.out]
      exact ⟨_, tab3, rfl, hkeep4.out _ _ _ _ HF3.out, HO3.out, HBW.out.trans hbut4.out, by rw [app_cnt]; exact hown4.low (by omega)⟩
    have t1 : ¬ ((0 : Int) < (pt : Int)) := by omega
    rw [if_neg hp0] at hmk
    by_cases hp1 : 0 < pd
    · rw [if_pos hp1, sub_take (by omega)] at hmk
      have HMK := Lib.hid hmk
      have t2 : ((0 : Int) < (pd : Int)) := by omega
      have k1 := mkT_cnt M (sub l a pd) (sub_ne (l := l) (by omega) (by omega)) (by rw [sub_len (by omega)]; omega)
      rw [sub_len (by omega)] at k1
      have tz : ¬ pd = 0 := by omega
      obtain ⟨q, hq⟩ : ∃ q, m / pd = q := ⟨_, rfl⟩
      have td2 : (m : Int) / (pd : Int) = (q : Int) := by rw [← hq]; rfl
      have td : (m : Int).tdiv (pd : Int) = (q : Int) := by rw [Int.tdiv_eq_ediv_of_nonneg (by omega)]; exact td2
      have hqm : q ≤ m := by rw [← hq]; exact Nat.div_le_self _ _
      have tw := IntWalk.i64_in (q : Int) (by omega)
      have HQ9 := Lib.hid hq
      clear hq
      clear hmk
      go_upto_region 6 with fail
      go_region_held3 (fun w' => w'.cell? ⟨w1.heap.size, 1, none⟩ = some (.int .i64 (pd : Nat))) (go_keep)
        (first
          | (go_at_call 41; go_loud ((with_reducible refine (IH.out a pd _ _ (by omega) (by omega) (by omega) (HW1.out.ext (by repeat (first | exact Ext.refl _ | assumption | refine Ext.alloc ?_ _ | refine Ext.drew ?_ | refine Ext.drewN ?_ _ | refine Ext.trans ?_ (by assumption)))) (HF1.out.ext (by repeat (first | exact Ext.refl _ | assumption | refine Ext.alloc ?_ _ | refine Ext.drew ?_ | refine Ext.drewN ?_ _ | refine Ext.trans ?_ (by assumption)))) HO1.out _ _ rfl rfl).mono ?_); rintro e w2 ⟨v1, tab2, rfl, hf2, ho2, hb2, hw2⟩; obtain ⟨A2, c2, rfl, hk2⟩ := own_tms hw2 (by omega); have HF2 := Lib.hid hf2; have HO2 := Lib.hid ho2; have HB2 := Lib.hid ((But.of_ext (by repeat (first | exact Ext.refl _ | assumption | refine Ext.alloc ?_ _ | refine Ext.drew ?_ | refine Ext.drewN ?_ _ | refine Ext.trans ?_ (by assumption))) (some g)).trans hb2 : But (some g) wb w2); have HK2 := Lib.hid (show TvK w2 (fun b => wb.heap.size ≤ b) A2 (mkT M (sub l a pd)).cnt (mkT M (sub l a pd)) from hk2); have b3 := (But.cell (p := ⟨w1.heap.size, 1, none⟩) HB2.out (by show w1.heap.size < wb.heap.size; omega) (by intro e9; have e8 : w1.heap.size = g := (by simpa using e9); omega)).trans b1; clear hf2 ho2 hb2 hw2 hk2)))
      all_goals (go_wp2; go_ret; rw [HMK.out, HQ9.out]; exact ⟨_, tab2, rfl, HF2.out.ext ((Ext.refl _).alloc _), HO2.out, (HBW.out.trans HB2.out).trans (But.of_ext ((Ext.refl _).alloc _) _), one_tm w2 w.heap.size 48 (q : Int) 0 false 0 0 (by have := HB2.out.size; omega) (by omega) (HK2.out.mono fun b _ hb => by omega)⟩)
    have t2 : ¬ ((0 : Int) < (pd : Int)) := by omega
    rw [if_neg hp1, sub_get (by omega), Nat.add_zero] at hmk
    have HMK := Lib.hid hmk
    have HBY := Lib.hid (hby a (by omega))
    clear hmk hby
    obtain ⟨b, off, rfl, hb, hc⟩ := Sts.all HW1.out (by omega)
    obtain ⟨k1, k2, k3, k4⟩ := hc a (by omega)
    have g0 := HF1.out.hd
    have t3 : (a : Int) < (n : Int) := by omega
    generalize hs : l.getD a st0 = s at *
    obtain ⟨s1, s2, s3, s4⟩ := s
    simp only at k1 k2 k3 k4
    have n1 : ((a : Int)).toNat = a := by omega
    go_wp2_with fail
    go_ret
    rw [HMK.out]
    exact ⟨_, tab1, rfl, HF1.out.ext ((Ext.refl _).alloc _), HO1.out, HBW.out.trans (But.of_ext ((Ext.refl _).alloc _) _), by
      rw [← hbz]
      exact one_tm wb w.heap.size 48 (m : Int) s1 s2 s3 s4 (by omega) HBY.out (TvK.none_ _ _ _)⟩
end Go.Proofs.YtfbfkoeaihknoaaGreatDoor
/- Find of the shortest list. -/
namespace Go.Proofs.YtfbfkoeaihknoaaGreatDoor
set_option maxRecDepth 100000
set_option maxRecDepth 100000
open Go.RowKit Go.ChangeShapes Go.WideShapes Go.Joins
/-- what Find returns -/
def findE (l : List St) : Int := if 60 < l.length then 4 else if allB l = true then 0 else 8
def findL (l : List St) : Tms := if findE l = 0 then findT l else .nil
def FindR (l : List St) (w : World) (e : Ending) (w' : World) : Prop :=
  ∃ (A : Option Addr) (c : Nat), e = .returned (.tuple #[.slice A (findL l).cnt c, .int .i64 (findE l)]) ∧ Ext w w' ∧ TvK w' (fun b => w.heap.size ≤ b) A (findL l).cnt (findL l)
theorem FindR.none_ {l : List St} {w w' : World} {x : Int} (hx : findE l = x) (h0 : x ≠ 0) (h : Ext w w') : FindR l w (.returned (.tuple #[.slice none 0 0, .int .i64 x])) w' := by
  have h1 : findL l = .nil := by rw [findL, if_neg (by rw [hx]; exact h0)]
  exact ⟨none, 0, by rw [h1, hx]; rfl, h, by rw [h1]; exact TvK.none_ _ _ _⟩
set_option maxHeartbeats 8000000 in
theorem find_any (n c : Nat) (A : Option Addr) (l : List St) (w : World) (hl : Vec shSt w A n l) (hby : Bytes l) (hn : n ≤ maxLen) :
    Calls Tryz.prog 23 #[.slice A n c] w (FindR l w) := by
  have HX := Lib.hid hl
  have hlen := hl.1
  unfold maxLen at hn
  by_cases hn60 : 60 < n
  · have q1 : ((60 : Int) < (n : Int)) := by omega
    have HE := Lib.hid (show findE l = 4 by rw [findE, if_pos (by omega)])
    clear hl
    go_enter Tryz.func23, Tryz.ntmps23
    go_wp2_with fail
    go_ret2
    exact FindR.none_ HE.out (by decide) (by repeat (first | exact Ext.refl _ | assumption | refine Ext.alloc ?_ _ | refine Ext.drew ?_ | refine Ext.drewN ?_ _ | refine Ext.trans ?_ (by assumption)))
  have q1 : ¬ ((60 : Int) < (n : Int)) := by omega
  clear hl
  go_enter Tryz.func23, Tryz.ntmps23
  go_wp2_with fail
  go_loopw [12] (fun i wr => ∃ k : Nat, i = .int .i64 k ∧ k ≤ n ∧ Hid (∀ j, j < k → okSt (l.getD j st0) = true) ∧ Hid (Ext w wr)) (fun i _ => n - (intOf i).toNat)
  case atStart => exact ⟨0, rfl, by omega, Lib.hid (fun j hj => absurd hj (by omega)), Lib.hid (by repeat (first | exact Ext.refl _ | assumption | refine Ext.alloc ?_ _ | refine Ext.drew ?_ | refine Ext.drewN ?_ _ | refine Ext.trans ?_ (by assumption)))⟩
  case round =>
    obtain ⟨k, rfl, hk, HA, HE⟩ := hrel
    have hx := HE.out
    by_cases hlt : k < n
    · obtain ⟨b, off, rfl, hb, hc⟩ := Sts.all (HX.out.ext hx) (by omega)
      obtain ⟨c1, c2, c3, c4⟩ := hc k hlt
      have hby1 := hby k (by omega)
      have q0 : (0 : Int) ≤ (k : Int) := by omega
      have q2 : (k : Int) < (n : Int) := by omega
      have HOK := Lib.hid (show okSt (l.getD k st0) = false → findE l = 8 from fun h => by rw [findE, if_neg (by omega), if_neg (by rw [allB_bad (n := n) (k := k) hlen hlt h]; simp)])
      have HA2 := Lib.hid (show okSt (l.getD k st0) = true → ∀ j, j < k + 1 → okSt (l.getD j st0) = true from fun h j hj => by
        by_cases e : j = k
        · subst e; exact h
        · exact HA.out j (by omega))
      clear hc
      generalize hs : l.getD k st0 = s at *
      obtain ⟨s1, s2, s3, s4⟩ := s
      simp only at c1 c2 c3 c4 hby1
      clear hs
      cases hok : okSt ⟨s1, s2, s3, s4⟩
      case false =>
        have HQ := Lib.hid (show okE ⟨s1, s2, s3, s4⟩ = 8 by rw [okE, hok]; rfl)
        have HF := Lib.hid (HOK.out hok)
        clear HOK HA2 hok
        go_wp2_with (first
          | (go_at_call 40; go_loud ((with_reducible refine (check_any s1 s2 s3 s4 hby1.1 hby1.2 _).mono ?_); rintro e w2 ⟨rfl, hq⟩; rw [HQ.out])))
        go_ret2
        exact FindR.none_ HF.out (by decide) (by repeat (first | exact Ext.refl _ | assumption | refine Ext.alloc ?_ _ | refine Ext.drew ?_ | refine Ext.drewN ?_ _ | refine Ext.trans ?_ (by assumption)))
      case true =>
        have HQ := Lib.hid (show okE ⟨s1, s2, s3, s4⟩ = 0 by rw [okE, hok]; rfl)
        have HA3 := Lib.hid (HA2.out hok)
        clear HOK HA2 hok
        go_wp2_with (first
          | (go_at_call 40; go_loud ((with_reducible refine (check_any s1 s2 s3 s4 hby1.1 hby1.2 _).mono ?_); rintro e w2 ⟨rfl, hq⟩; rw [HQ.out])))
        go_roundw
        case rel => exact ⟨k + 1, by go_num, by omega, HA3, Lib.hid (by repeat (first | exact Ext.refl _ | assumption | refine Ext.alloc ?_ _ | refine Ext.drew ?_ | refine Ext.drewN ?_ _ | refine Ext.trans ?_ (by assumption)))⟩
        case measure => simp [intOf]; omega
    · obtain rfl : k = n := by omega
      have hall := allB_ok hlen HA.out
      have HB := Lib.hid hall
      by_cases hn0 : k = 0
      · subst hn0
        go_wp2_with fail
        go_ret2
        have e1 : l = [] := List.eq_nil_of_length_eq_zero hlen
        subst e1
        exact ⟨none, 0, rfl, HE.out, TvK.none_ _ _ _⟩
      have hn1 : ¬ ((k : Int) = 0) := by omega
      have hn2 : ((k : Int) == 0) = false := by rw [beq_eq_false_iff_ne]; exact hn1
      obtain ⟨Z, hZ, hZs, hZ0⟩ := zero_finder wr
      have hZe : ¬ (Z = #[]) := by rintro rfl; simp at hZs
      have HF := Lib.hid (FAt.new_ wr (t := 79) A k c hZs hZ0)
      have HNE := Lib.hid (show ∀ b off, A = some ⟨b, off, none⟩ → b ≠ wr.heap.size from fun b off e => by
        obtain ⟨b', off', e', hb, _⟩ := HX.out.2 (by omega)
        rw [e] at e'
        cases e'
        have := Below.size hx
        omega)
      have HV := Lib.hid (HX.out.ext (hx.trans ((Ext.refl wr).alloc (Obj.cells (Z.setIfInBounds 0 (Value.slice A k c)) 79))))
      have HW := Lib.hid (show Ext w (wr.alloc (Obj.cells (Z.setIfInBounds 0 (Value.slice A k c)) 79)) from hx.trans ((Ext.refl _).alloc _))
      have hsz : (wr.alloc (Obj.cells (Z.setIfInBounds 0 (Value.slice A k c)) 79)).heap.size = wr.heap.size + 1 := by simp
      clear hZs hZ0
      have HZ0 := Lib.hid (show (0 : Int) = ((0 : Nat) : Int) from rfl)
      go_upto_region 12 with (fail)
      generalize hwf : wr.alloc (Obj.cells (Z.setIfInBounds 0 (Value.slice A k c)) 79) = wf at *
      clear hZ hwf hn1 hn2
      have hcnt := mkT_cnt k l (by rintro rfl; simp at hlen; omega) (by omega)
      go_wp2_with (first
        | (go_at_call 41; go_loud ((with_reducible refine (list_any wr.heap.size k c A l (by omega) hlen hby HNE.out k 0 k _ _ (Nat.le_refl _) (by omega) (by omega) HV.out HF.out (TabOk.empty l) (0 : Int) (k : Int) HZ0.out rfl).mono ?_); rw [show sub l 0 k = l by rw [← hlen]; exact sub_all l]; rintro e w2 ⟨v1, tab2, rfl, hf2, ho2, hb2, hw2⟩; obtain ⟨A2, c2, rfl, hk2⟩ := own_tms hw2 (by omega); have HB2 := Lib.hid hb2; have HK2 := Lib.hid hk2; clear hf2 ho2 hb2 hw2 hk2)))
      go_ret2
      have hE : findE l = 0 := by rw [findE, if_neg (by omega), if_pos HB.out]
      have hL : findL l = mkT k l := by rw [findL, if_pos hE, findT, if_neg (by rintro rfl; simp at hlen; omega), hlen]
      have hws := Below.size hx
      refine ⟨A2, c2, by rw [hE, hL]; rfl, ?_, by rw [hL]; exact HK2.out.mono fun b _ hb => by omega⟩
      exact Below.trans HW.out (HB2.out.below (by omega) (fun k h => by cases h; exact hws))
end Go.Proofs.YtfbfkoeaihknoaaGreatDoor
/- Contracts with named values for the laws of terms; the chapter's examples. -/
namespace Go.Proofs.YtfbfkoeaihknoaaGreatDoor
set_option maxRecDepth 100000
set_option maxRecDepth 100000
open Go.RowKit Go.ChangeShapes Go.WideShapes Go.Joins
/-- Find of at most 60 valid cells -/
theorem find_c {n c : Nat} {A : Option Addr} {l : List St} {w : World} (hv : Vec shSt w A n l) (hb : allB l = true) (hl : n ≤ 60) :
    Calls Tryz.prog 23 #[.slice A n c] w fun e w' => ∃ (A' : Option Addr) (c' : Nat), e = .returned (.tuple #[.slice A' (findT l).cnt c', .int .i64 0]) ∧ Ext w w' ∧ Tv w' A' (findT l).cnt (findT l) := by
  refine (find_any n c A l w hv (bytes_ok hb) (by unfold maxLen; omega)).mono ?_
  rintro e w' ⟨A', c', rfl, h1, h2⟩
  have hE : findE l = 0 := by rw [findE, if_neg (by rw [hv.1]; omega), if_pos hb]
  have hL : findL l = findT l := by rw [findL, if_pos hE]
  rw [hL] at h2 ⊢
  rw [hE]
  exact ⟨A', c', rfl, h1, h2.tv⟩
theorem fsz {l : List St} (hb : allB l = true) (hl : l.length ≤ 60) : tszV (findT l) = ((findT l).size : Int) := by
  have h1 := find_chk hb hl
  have h2 := find_len l
  have hz : szM (findT l) = ((findT l).size : Int) := by unfold szM; omega
  rw [tszV, if_pos h1, hz]
theorem size_f {l : List St} {A : Option Addr} {cap k : Nat} {w : World} (hv : Tv w A (findT l).cnt (findT l)) (hb : allB l = true) (hl : l.length ≤ 60) (hk : (findT l).size = k) :
    Calls Tryz.prog 26 #[.slice A (findT l).cnt cap] w fun e w' => e = .returned (.tuple #[.int .i64 (k : Int), .int .i64 0]) ∧ Ext w w' := by
  have h := tsize_any (findT l) (by have := find_len l; omega) A _ cap w hv
  rw [fsz hb hl, find_chk hb hl, hk] at h
  exact h
/-- size of at most 60 valid cells -/
theorem size_c {n c k : Nat} {A : Option Addr} {l : List St} {w : World} (hv : Vec shSt w A n l) (hb : allB l = true) (hl : n ≤ 60) (hk : (findT l).size = k) :
    Calls Tryz.prog 17 #[.slice A n c] w fun e w' => e = .returned (.int .i64 (k : Int)) ∧ Ext w w' := by
  have HV := Lib.hid hv
  have HL := Lib.hid hv.1
  clear hv
  go_enter Tryz.func17, Tryz.ntmps17
  go_wp2_with (first
    | (go_at_call 23; ((with_reducible refine (find_c (HV.out.ext (by repeat (first | exact Ext.refl _ | assumption | refine Ext.alloc ?_ _ | refine Ext.drew ?_ | refine Ext.drewN ?_ _ | refine Ext.trans ?_ (by assumption)))) hb hl).mono ?_); rintro e w1 ⟨A1, c1, rfl, hq1, hv1⟩; have HV1 := Lib.hid hv1; clear hv1))
    | (go_at_call 26; ((with_reducible refine (size_f (HV1.out.ext (by repeat (first | exact Ext.refl _ | assumption | refine Ext.alloc ?_ _ | refine Ext.drew ?_ | refine Ext.drewN ?_ _ | refine Ext.trans ?_ (by assumption)))) hb (by have := HL.out; omega) hk).mono ?_); rintro e w2 ⟨rfl, hq2⟩)))
  go_ret
  exact ⟨rfl, by repeat (first | exact Ext.refl _ | assumption | refine Ext.alloc ?_ _ | refine Ext.drew ?_ | refine Ext.drewN ?_ _ | refine Ext.trans ?_ (by assumption))⟩
/-- the cells of a text -/
theorem cells_c {s : List UInt8} {l : List St} {w : World} (m : Nat) (h : parseL s = some l) (hm : l.length = m) :
    Calls Tryz.prog 36 #[.string ⟨s.toArray⟩] w fun e w' => ∃ (A : Option Addr) (c : Nat), e = .returned (.slice A m c) ∧ Ext w w' ∧ Vec shSt w' A m l := by
  have hs := (parse_iff.1 h).1
  obtain ⟨e1, e2⟩ := parse_some h
  have HP := Lib.hid (fun (w' : World) => (show Calls Tryz.prog 57 #[.string ⟨s.toArray⟩] w' fun e w'' => ∃ (A : Option Addr) (c : Nat), e = .returned (.tuple #[.slice A m c, .int .i64 0]) ∧ Ext w' w'' ∧ Vec shSt w'' A m l from by
    refine (rparse_own s (by omega) w').mono ?_
    rintro e w9 ⟨v, rfl, h1, h2⟩
    rw [e2] at h1
    rw [e1]
    obtain ⟨A, c, rfl, h3⟩ := own_vec h1
    rw [hm] at h3 ⊢
    exact ⟨A, c, rfl, h2, h3⟩))
  clear h hm hs e1 e2
  go_enter Tryz.func36, Tryz.ntmps36
  go_wp2_with (first
    | (go_at_call 57; ((with_reducible refine (HP.out _).mono ?_); rintro e w1 ⟨A1, c1, rfl, hq1, hv1⟩; have HV1 := Lib.hid hv1; clear hv1)))
  go_ret
  exact ⟨_, _, rfl, by repeat (first | exact Ext.refl _ | assumption | refine Ext.alloc ?_ _ | refine Ext.drew ?_ | refine Ext.drewN ?_ _ | refine Ext.trans ?_ (by assumption)), HV1.out⟩
theorem finds_c {s : List UInt8} {l : List St} {T : List UInt8} {k : Nat} {w : World} (m : Nat) (h : parseL s = some l) (hm : l.length = m) (hm60 : m ≤ 60) (hT : wT (findT l) = T) (hTl : T.length ≤ 3000) (hk : (findT l).size = k) (hg : Glob w) :
    Calls Tryz.prog 18 #[.string ⟨s.toArray⟩, .string ⟨T.toArray⟩, .int .i64 (k : Int)] w fun e w' => e = .returned (.bool true) ∧ Ext w w' := by
  have hal : allB l = true := (allE_e (parse_iff.1 h).2.1).2.1
  have HC := Lib.hid (fun (w' : World) => cells_c (w := w') m h hm)
  have HG := Lib.hid hg
  have hck := find_chk hal (by omega)
  have HTX := Lib.hid (show ttextE (findT l) = 0 ∧ ttextV (findT l) = T by
    have h1 : ttextE (findT l) = 0 := by rw [ttextE, if_neg (by rw [hck]; simp), hT, if_neg (by omega)]
    exact ⟨h1, by rw [ttextV, if_pos h1, hT]⟩)
  have hsz : (findT l).size ≤ 5000 := by have := find_len l; omega
  have HTT := Lib.hid (fun (A : Option Addr) (cap : Nat) (w' : World) (hv : Tv w' A (findT l).cnt (findT l)) (hg' : Glob w') => (show Calls Tryz.prog 10 #[.slice A (findT l).cnt cap] w' fun e w'' => e = .returned (.tuple #[.string ⟨T.toArray⟩, .int .i64 0]) ∧ Ext w' w'' from by
    have h9 := ttext_any (findT l) hsz A _ cap w' hv hg'
    unfold TxR at h9
    rw [HTX.out.1, HTX.out.2] at h9
    exact h9))
  have HLM := Lib.hid hm
  clear h hg hm hT
  go_enter Tryz.func18, Tryz.ntmps18
  go_wp2_with (first
    | (go_at_call 36; ((with_reducible refine (HC.out _).mono ?_); rintro e w1 ⟨A1, c1, rfl, hq1, hv1⟩; have HV1 := Lib.hid hv1; clear hv1))
    | (go_at_call 23; ((with_reducible refine (find_c (HV1.out.ext (by repeat (first | exact Ext.refl _ | assumption | refine Ext.alloc ?_ _ | refine Ext.drew ?_ | refine Ext.drewN ?_ _ | refine Ext.trans ?_ (by assumption)))) hal hm60).mono ?_); rintro e w2 ⟨A2, c2, rfl, hq2, hv2⟩; have HV2 := Lib.hid hv2; clear hv2))
    | (go_at_call 10; ((with_reducible refine (HTT.out _ _ _ (HV2.out.ext (by repeat (first | exact Ext.refl _ | assumption | refine Ext.alloc ?_ _ | refine Ext.drew ?_ | refine Ext.drewN ?_ _ | refine Ext.trans ?_ (by assumption)))) (HG.out.ext (by repeat (first | exact Ext.refl _ | assumption | refine Ext.alloc ?_ _ | refine Ext.drew ?_ | refine Ext.drewN ?_ _ | refine Ext.trans ?_ (by assumption))))).mono ?_); rintro e w3 ⟨rfl, hq3⟩))
    | (go_at_call 26; ((with_reducible refine (size_f (HV2.out.ext (by repeat (first | exact Ext.refl _ | assumption | refine Ext.alloc ?_ _ | refine Ext.drew ?_ | refine Ext.drewN ?_ _ | refine Ext.trans ?_ (by assumption)))) hal (by have := HLM.out; omega) hk).mono ?_); rintro e w4 ⟨rfl, hq4⟩)))
  all_goals (go_ret; exact ⟨by first | rfl | simp, by repeat (first | exact Ext.refl _ | assumption | refine Ext.alloc ?_ _ | refine Ext.drew ?_ | refine Ext.drewN ?_ _ | refine Ext.trans ?_ (by assumption))⟩)
/-- what Parse accepts -/
theorem rdparse_c {s : List UInt8} {t : Tms} {w : World} (h : parseT atoiO s = some t) (hs : s.length ≤ 3000) (ha : Asc s) (hg : Glob w) :
    Calls Tryz.prog 12 #[.string ⟨s.toArray⟩] w fun e w' => ∃ (A : Option Addr) (c : Nat), e = .returned (.tuple #[.slice A t.cnt c, .int .i64 0]) ∧ Ext w w' ∧ Tv w' A t.cnt t := by
  refine (parse_rd s (by omega) ha w hg).mono ?_
  rintro e w' ⟨v, x, rfl, h1, h2⟩
  rcases h2 with ⟨h3, -, -⟩ | ⟨t', h3, rfl, ho⟩
  · rw [h] at h3; cases h3
  · rw [h] at h3
    cases h3
    have hs2 : t.size ≤ 200 := (tchk_parts ((parseT_iff at_hat).1 h).2.1).1
    have hc := cnt_size t
    obtain ⟨A, c, rfl, hk⟩ := own_tms ho (by omega)
    exact ⟨A, c, rfl, h1, hk.tv⟩
theorem exA_p : parseL [107, 50, 32, 121, 111, 32, 107, 50, 32, 121, 111, 32, 112] = some [⟨1, false, 0, 0⟩, ⟨1, false, 0, 0⟩, ⟨2, false, 0, 0⟩, ⟨1, false, 0, 0⟩, ⟨1, false, 0, 0⟩, ⟨2, false, 0, 0⟩, ⟨1, true, 0, 0⟩] := by decide +kernel
theorem exA_t : wT (findT [⟨1, false, 0, 0⟩, ⟨1, false, 0, 0⟩, ⟨2, false, 0, 0⟩, ⟨1, false, 0, 0⟩, ⟨1, false, 0, 0⟩, ⟨2, false, 0, 0⟩, ⟨1, true, 0, 0⟩]) = [40, 107, 42, 50, 32, 121, 111, 41, 42, 50, 32, 112] := by decide +kernel
theorem exA_k : (findT [⟨1, false, 0, 0⟩, ⟨1, false, 0, 0⟩, ⟨2, false, 0, 0⟩, ⟨1, false, 0, 0⟩, ⟨1, false, 0, 0⟩, ⟨2, false, 0, 0⟩, ⟨1, true, 0, 0⟩]).size = 4 := by decide +kernel
theorem exA_f (w : World) (hg : Glob w) : Calls Tryz.prog 18 #[.string ⟨#[107, 50, 32, 121, 111, 32, 107, 50, 32, 121, 111, 32, 112]⟩, .string ⟨#[40, 107, 42, 50, 32, 121, 111, 41, 42, 50, 32, 112]⟩, .int .i64 4] w fun e w' => e = .returned (.bool true) ∧ Ext w w' :=
  finds_c (k := 4) 7 exA_p rfl (by omega) exA_t (by decide) exA_k hg
theorem exB_p : parseL [107, 32, 112, 32, 107, 32, 112, 32, 107, 32, 112] = some [⟨1, false, 0, 0⟩, ⟨1, true, 0, 0⟩, ⟨1, false, 0, 0⟩, ⟨1, true, 0, 0⟩, ⟨1, false, 0, 0⟩, ⟨1, true, 0, 0⟩] := by decide +kernel
theorem exB_t : wT (findT [⟨1, false, 0, 0⟩, ⟨1, true, 0, 0⟩, ⟨1, false, 0, 0⟩, ⟨1, true, 0, 0⟩, ⟨1, false, 0, 0⟩, ⟨1, true, 0, 0⟩]) = [40, 107, 32, 112, 41, 42, 51] := by decide +kernel
theorem exB_k : (findT [⟨1, false, 0, 0⟩, ⟨1, true, 0, 0⟩, ⟨1, false, 0, 0⟩, ⟨1, true, 0, 0⟩, ⟨1, false, 0, 0⟩, ⟨1, true, 0, 0⟩]).size = 3 := by decide +kernel
theorem exB_f (w : World) (hg : Glob w) : Calls Tryz.prog 18 #[.string ⟨#[107, 32, 112, 32, 107, 32, 112, 32, 107, 32, 112]⟩, .string ⟨#[40, 107, 32, 112, 41, 42, 51]⟩, .int .i64 3] w fun e w' => e = .returned (.bool true) ∧ Ext w w' :=
  finds_c (k := 3) 6 exB_p rfl (by omega) exB_t (by decide) exB_k hg
theorem exC_p : parseL [107, 32, 112, 32, 107] = some [⟨1, false, 0, 0⟩, ⟨1, true, 0, 0⟩, ⟨1, false, 0, 0⟩] := by decide +kernel
theorem exC_t : wT (findT [⟨1, false, 0, 0⟩, ⟨1, true, 0, 0⟩, ⟨1, false, 0, 0⟩]) = [107, 32, 112, 32, 107] := by decide +kernel
theorem exC_k : (findT [⟨1, false, 0, 0⟩, ⟨1, true, 0, 0⟩, ⟨1, false, 0, 0⟩]).size = 3 := by decide +kernel
theorem exC_f (w : World) (hg : Glob w) : Calls Tryz.prog 18 #[.string ⟨#[107, 32, 112, 32, 107]⟩, .string ⟨#[107, 32, 112, 32, 107]⟩, .int .i64 3] w fun e w' => e = .returned (.bool true) ∧ Ext w w' :=
  finds_c (k := 3) 3 exC_p rfl (by omega) exC_t (by decide) exC_k hg
abbrev exT : Tms := .cons 1 ⟨0, false, 0, 0⟩ (.cons 1 ⟨1, false, 0, 0⟩ .nil (.cons 1 ⟨1, true, 0, 0⟩ .nil .nil)) .nil
theorem exD_p : parseT atoiO [40, 107, 32, 112, 41] = some exT := (parseT_iff at_hat).2 ⟨by decide, by decide +kernel, by decide +kernel⟩
theorem exD_c (w : World) (hg : Glob w) : Calls Tryz.prog 12 #[.string ⟨#[40, 107, 32, 112, 41]⟩] w fun e w' => ∃ (b off c : Nat), e = .returned (.tuple #[.slice (some ⟨b, off, none⟩) 1 c, .int .i64 0]) ∧ Ext w w' ∧ Tv w' (some ⟨b, off, none⟩) 1 exT ∧ b < w'.heap.size ∧ w'.cell? ⟨b, off, none⟩ = some (.int .i64 1) := by
  refine (rdparse_c exD_p (by decide) (by unfold Asc; decide) hg).mono ?_
  rintro e w' ⟨A, c, rfl, h1, h2⟩
  obtain ⟨b, off, rfl, hlt, hc⟩ := h2.2.2 (by decide)
  obtain ⟨A', n', cap', h0, -⟩ := hc.head
  exact ⟨b, off, c, rfl, h1, h2, hlt, h0⟩
theorem exD_s {A : Option Addr} {c : Nat} {w : World} (hv : Tv w A 1 exT) : Calls Tryz.prog 26 #[.slice A 1 c] w fun e w' => e = .returned (.tuple #[.int .i64 3, .int .i64 0]) ∧ Ext w w' := by
  have h := tsize_any exT (by decide) A 1 c w hv
  rw [show tszV exT = 3 by decide +kernel, show tchkE exT = 0 by decide +kernel] at h
  exact h
set_option maxHeartbeats 4000000 in
/-- the chapter's examples -/
theorem shalive_any (w : World) (hg : Glob w) : Calls Tryz.prog 15 #[] w fun e w' => e = .returned (.bool true) ∧ Ext w w' := by
  have HG := Lib.hid hg
  have HB := Lib.hid (Ext.refl w)
  clear hg
  go_enter Tryz.func15, Tryz.ntmps15
  go_wp2_with (first
    | (go_at_call 12; go_loud ((with_reducible refine (exD_c _ (HG.out.ext HB.out)).mono ?_); rintro e w1 ⟨b, off, c, rfl, hq, hv, hlt, hc0⟩; replace HB := Lib.hid (HB.out.trans hq); have HV := Lib.hid hv; clear hq hv))
    | (go_at_call 26; go_loud ((with_reducible refine (exD_s HV.out).mono ?_); rintro e w2 ⟨rfl, hq⟩; obtain ⟨hf1, hf2, hf3⟩ := hq.facts; replace HB := Lib.hid (HB.out.trans hq); have HQ2 := Lib.hid hq; clear hq))
    | (go_at_call 18; (first
      | ((with_reducible refine (exA_f _ (HG.out.ext (HB.out.trans (by repeat (first | exact Ext.refl _ | assumption | refine Ext.alloc ?_ _ | refine Ext.drew ?_ | refine Ext.drewN ?_ _ | refine Ext.trans ?_ (by assumption)))))).mono ?_); rintro e w3 ⟨rfl, hq⟩; replace HB := Lib.hid (HB.out.trans (Ext.trans (by repeat (first | exact Ext.refl _ | assumption | refine Ext.alloc ?_ _ | refine Ext.drew ?_ | refine Ext.drewN ?_ _ | refine Ext.trans ?_ (by assumption))) hq)); have HQA := Lib.hid hq; clear hq)
      | ((with_reducible refine (exB_f _ (HG.out.ext (HB.out.trans (by repeat (first | exact Ext.refl _ | assumption | refine Ext.alloc ?_ _ | refine Ext.drew ?_ | refine Ext.drewN ?_ _ | refine Ext.trans ?_ (by assumption)))))).mono ?_); rintro e w4 ⟨rfl, hq⟩; replace HB := Lib.hid (HB.out.trans (Ext.trans (by repeat (first | exact Ext.refl _ | assumption | refine Ext.alloc ?_ _ | refine Ext.drew ?_ | refine Ext.drewN ?_ _ | refine Ext.trans ?_ (by assumption))) hq)); have HQB := Lib.hid hq; clear hq)
      | (go_loud ((with_reducible refine (exC_f _ (HG.out.ext (HB.out.trans (by repeat (first | exact Ext.refl _ | assumption | refine Ext.alloc ?_ _ | refine Ext.drew ?_ | refine Ext.drewN ?_ _ | refine Ext.trans ?_ (by assumption)))))).mono ?_); rintro e w5 ⟨rfl, hq⟩; have hx := (HQ2.out.trans (Ext.trans (by repeat (first | exact Ext.refl _ | assumption | refine Ext.alloc ?_ _ | refine Ext.drew ?_ | refine Ext.drewN ?_ _ | refine Ext.trans ?_ (by assumption))) (HQA.out.trans (Ext.trans (by repeat (first | exact Ext.refl _ | assumption | refine Ext.alloc ?_ _ | refine Ext.drew ?_ | refine Ext.drewN ?_ _ | refine Ext.trans ?_ (by assumption))) (HQB.out.trans (Ext.trans (by repeat (first | exact Ext.refl _ | assumption | refine Ext.alloc ?_ _ | refine Ext.drew ?_ | refine Ext.drewN ?_ _ | refine Ext.trans ?_ (by assumption))) hq)))))); obtain ⟨hg1, hg2, hg3⟩ := hx.facts; replace HB := Lib.hid (HB.out.trans (Ext.trans (by repeat (first | exact Ext.refl _ | assumption | refine Ext.alloc ?_ _ | refine Ext.drew ?_ | refine Ext.drewN ?_ _ | refine Ext.trans ?_ (by assumption))) hq)); clear hq hx)))))
  go_ret
  exact ⟨by first | rfl | simp, HB.out.trans (by repeat (first | exact Ext.refl _ | assumption | refine Ext.alloc ?_ _ | refine Ext.drew ?_ | refine Ext.drewN ?_ _ | refine Ext.trans ?_ (by assumption)))⟩
end Go.Proofs.YtfbfkoeaihknoaaGreatDoor
/- few, and facts on shortest lists for the laws. -/
namespace Go.Proofs.YtfbfkoeaihknoaaGreatDoor
set_option maxRecDepth 100000
set_option maxRecDepth 100000
open Go.RowKit Go.ChangeShapes Go.WideShapes Go.Joins
def fewB (l : List St) : Bool := decide (l.length ≤ 24) && allB l
theorem few_e {l : List St} (h : fewB l = true) : l.length ≤ 24 ∧ allB l = true := by simpa [fewB] using h
set_option maxHeartbeats 4000000 in
theorem few_any (n c : Nat) (A : Option Addr) (l : List St) (w : World) (hl : Vec shSt w A n l) (hn : n ≤ maxLen) :
    Calls Tryz.prog 16 #[.slice A n c] w fun e w' => e = .returned (.bool (fewB l)) ∧ Ext w w' := by
  have HX := Lib.hid hl
  have hlen := hl.1
  unfold maxLen at hn
  clear hl
  go_enter Tryz.func16, Tryz.ntmps16
  go_wp2_with fail
  go_loopw [3] (fun i wr => ∃ k : Nat, i = .int .i64 k ∧ k ≤ n ∧ k ≤ 25 ∧ Hid (∀ j, j < k → okSt (l.getD j st0) = true) ∧ Hid (Ext w wr)) (fun i _ => n - (intOf i).toNat)
  case atStart => exact ⟨0, rfl, by omega, by omega, Lib.hid (fun j hj => absurd hj (by omega)), Lib.hid (by repeat (first | exact Ext.refl _ | assumption | refine Ext.alloc ?_ _ | refine Ext.drew ?_ | refine Ext.drewN ?_ _ | refine Ext.trans ?_ (by assumption)))⟩
  case round =>
    obtain ⟨k, rfl, hk, hk2, HA, HE⟩ := hrel
    have hx := HE.out
    by_cases hlt : k < n ∧ k ≤ 24
    · obtain ⟨hlt, h24⟩ := hlt
      obtain ⟨b, off, rfl, hb, hc⟩ := Sts.all (HX.out.ext hx) (by omega)
      obtain ⟨c1, c2, c3, c4⟩ := hc k hlt
      have q0 : (0 : Int) ≤ (k : Int) := by omega
      have q1 : (k : Int) < (n : Int) := by omega
      have q2 : (k : Int) ≤ 24 := by omega
      have HOK := Lib.hid (show okSt (l.getD k st0) = false → fewB l = false from fun h => by rw [fewB, allB_bad (n := n) (k := k) hlen hlt h]; simp)
      have HA2 := Lib.hid (show okSt (l.getD k st0) = true → ∀ j, j < k + 1 → okSt (l.getD j st0) = true from fun h j hj => by
        by_cases e : j = k
        · subst e; exact h
        · exact HA.out j (by omega))
      clear hc
      generalize hs : l.getD k st0 = s at *
      obtain ⟨s1, s2, s3, s4⟩ := s
      simp only at c1 c2 c3 c4
      clear hs
      cases hok : okSt ⟨s1, s2, s3, s4⟩
      case false =>
        have HQ := Lib.hid (show okE ⟨s1, s2, s3, s4⟩ = 8 by rw [okE, hok]; rfl)
        have HF := Lib.hid (HOK.out hok)
        clear HOK HA2 hok
        go_wp2_with (first
          | (go_at_call 35; go_loud ((with_reducible refine (rcheck_any s1 s2 s3 s4 _).mono ?_); rintro e w2 ⟨rfl, hq⟩; rw [HQ.out])))
        go_ret
        exact ⟨by rw [HF.out]; rfl, by repeat (first | exact Ext.refl _ | assumption | refine Ext.alloc ?_ _ | refine Ext.drew ?_ | refine Ext.drewN ?_ _ | refine Ext.trans ?_ (by assumption))⟩
      case true =>
        have HQ := Lib.hid (show okE ⟨s1, s2, s3, s4⟩ = 0 by rw [okE, hok]; rfl)
        have HA3 := Lib.hid (HA2.out hok)
        clear HOK HA2 hok
        go_wp2_with (first
          | (go_at_call 35; go_loud ((with_reducible refine (rcheck_any s1 s2 s3 s4 _).mono ?_); rintro e w2 ⟨rfl, hq⟩; rw [HQ.out])))
        go_roundw
        case rel => exact ⟨k + 1, by go_num, by omega, by omega, HA3, Lib.hid (by repeat (first | exact Ext.refl _ | assumption | refine Ext.alloc ?_ _ | refine Ext.drew ?_ | refine Ext.drewN ?_ _ | refine Ext.trans ?_ (by assumption)))⟩
        case measure => simp [intOf]; omega
    · by_cases hkn : k < n
      · have q1 : (k : Int) < (n : Int) := by omega
        have q2 : ¬ ((k : Int) ≤ 24) := by omega
        have q3 : ¬ ((n : Int) ≤ 24) := by omega
        have HF := Lib.hid (show fewB l = false by rw [fewB]; simp; intro h; omega)
        go_wp2_with fail
        go_ret
        exact ⟨by rw [HF.out]; simp, by repeat (first | exact Ext.refl _ | assumption | refine Ext.alloc ?_ _ | refine Ext.drew ?_ | refine Ext.drewN ?_ _ | refine Ext.trans ?_ (by assumption))⟩
      · obtain rfl : k = n := by omega
        have HB := Lib.hid (allB_ok hlen HA.out)
        by_cases h24 : k ≤ 24
        · have q2 : ((k : Int) ≤ 24) := by omega
          have HF := Lib.hid (show fewB l = true by rw [fewB, HB.out]; simp; omega)
          go_wp2_with fail
          go_ret
          exact ⟨by rw [HF.out]; simp, by repeat (first | exact Ext.refl _ | assumption | refine Ext.alloc ?_ _ | refine Ext.drew ?_ | refine Ext.drewN ?_ _ | refine Ext.trans ?_ (by assumption))⟩
        · have q2 : ¬ ((k : Int) ≤ 24) := by omega
          have HF := Lib.hid (show fewB l = false by rw [fewB]; simp; intro h; omega)
          go_wp2_with fail
          go_ret
          exact ⟨by rw [HF.out]; simp, by repeat (first | exact Ext.refl _ | assumption | refine Ext.alloc ?_ _ | refine Ext.drew ?_ | refine Ext.drewN ?_ _ | refine Ext.trans ?_ (by assumption))⟩
theorem rep_all {n : Nat} {g : List St} (h : allB g = true) : allB (rep n g) = true := by
  induction n with
  | zero => rfl
  | succ n ih => rw [rep, allB_app, h, ih]; rfl
theorem fine_all : ∀ {t : Tms}, fineT t = true → allB t.cells = true ∧ t.pos := by
  intro t
  induction t with
  | nil => intro _; exact ⟨rfl, trivial⟩
  | cons N c g r ih1 ih2 =>
    intro h
    obtain ⟨hn, hg, hr, hc, -⟩ := fine_parts h
    obtain ⟨a1, a2⟩ := ih1 hg
    obtain ⟨b1, b2⟩ := ih2 hr
    refine ⟨?_, hn.1, a2, b2⟩
    rw [cells_own, allB_app, b1, Bool.and_true]
    apply rep_all
    by_cases h0 : g = .nil
    · subst h0
      rw [own_one]
      simp [allB, hc rfl]
    · rw [own_grp c (by cases g with | nil => exact absurd rfl h0 | cons => simp [Tms.cnt])]
      exact a1
end Go.Proofs.YtfbfkoeaihknoaaGreatDoor
/- What the rows' listed variables give. -/
namespace Go.Proofs.YtfbfkoeaihknoaaGreatDoor
set_option maxRecDepth 100000
set_option maxRecDepth 100000
open Go.ChangeShapes Go.WideShapes Go.ChangeAt Go.RowKit
theorem star_err : "*" ++ "errors.errorString" = "*errors.errorString" := by decide
theorem row_err (u : TypeId) (h : Tryz.prog.typeName? 3 u = some "*errors.errorString") : u = 193 :=
  typeName_ptr_named (nm := "errors.errorString") (by rw [star_err]; kernel_rfl) (by kernel_rfl) (by decide) u (by rw [star_err]; exact h)
theorem pow_tab : Rows.laid_internal_strconv_uint64pow10 (H := Unit) = Lib.tabData .u64 Lib.pow10Tab := by rfl
theorem glob_of {W : World} (hL : laidMet Tryz.prog [("math/bits.deBruijn32tab", Rows.laid_math_bits_deBruijn32tab), ("math/bits.deBruijn64tab", Rows.laid_math_bits_deBruijn64tab), ("internal/strconv.uint64pow10", Rows.laid_internal_strconv_uint64pow10), ("unicode/utf8.acceptRanges", Rows.laid_unicode_utf8_acceptRanges), ("strconv.ErrRange", Rows.laid_strconv_ErrRange), ("strconv.ErrSyntax", Rows.laid_strconv_ErrSyntax), ("unicode/utf8.first", Rows.laid_unicode_utf8_first)] W) (hsh : W.ShapedOpen Tryz.prog) : Glob W := by
  have h1 := laidMet.tail (laidMet.tail hL)
  have h2 := laidMet.tail (laidMet.tail h1)
  have h3 := laidMet.tail h2
  rw [pow_tab] at h1
  refine ⟨Lib.tabIs_of_head (g := 0) (t := 148) (e := 134) (n := 20) (by kernel_rfl) (by kernel_rfl) (by kernel_rfl) (by kernel_rfl) (by kernel_rfl) (by kernel_rfl) h1, ?_, ?_, Tryz.laysM146.s1_3 W hsh⟩
  · obtain ⟨a, s, h, -⟩ := laid_sentinel (g := 1) (ti := 83) (tp := 193) (te := 195) (ts := 9) h3 (by kernel_rfl) (by kernel_rfl) Tryz.underlying83 row_err (by kernel_rfl) Tryz.underlying195 rfl rfl (by kernel_rfl) (by kernel_rfl) (by kernel_rfl)
    exact ⟨_, _, h⟩
  · obtain ⟨a, s, h, -⟩ := laid_sentinel (g := 2) (ti := 83) (tp := 193) (te := 195) (ts := 9) h2 (by kernel_rfl) (by kernel_rfl) Tryz.underlying83 row_err (by kernel_rfl) Tryz.underlying195 rfl rfl (by kernel_rfl) (by kernel_rfl) (by kernel_rfl)
    exact ⟨_, _, h⟩
end Go.Proofs.YtfbfkoeaihknoaaGreatDoor
