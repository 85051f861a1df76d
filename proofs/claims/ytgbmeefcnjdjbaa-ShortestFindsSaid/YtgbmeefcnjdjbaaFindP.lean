/- The reference's Find; a list that is small is not great. -/
import Derived.Test.YtgbmeefcnjdjbaaFindM
import Derived.Test.YtgbmeefcnjdjbaaFindN
import Derived.Test.YtgbmeefcnjdjbaaFindO
namespace Go.Proofs.Ytgbmeefcnjdjbaa
set_option maxRecDepth 100000
set_option maxRecDepth 100000
open Go.RowKit Go.ChangeShapes Go.WideShapes Go.Joins
set_option maxHeartbeats 8000000 in
theorem rfind_any (n c : Nat) (A : Option Addr) (l : List St) (w : World) (hl : Vec shSt w A n l) (hby : Bytes l) (hn : n ≤ maxLen) (hcap : n ≤ c) :
    Calls Try.prog 5 #[.slice A n c] w (FindR l w) := by
  have HX := Lib.hid hl
  have hlen := hl.1
  unfold maxLen at hn
  by_cases hn60 : 60 < n
  · have q1 : ((60 : Int) < (n : Int)) := by omega
    have HE := Lib.hid (show findE l = 4 by rw [findE, if_pos (by omega)])
    clear hl
    go_enter Try.func5, Try.ntmps5
    go_wp2_with fail
    go_ret2
    exact FindR.none_ HE.out (by decide) (by repeat (first | exact Ext.refl _ | assumption | refine Ext.alloc ?_ _ | refine Ext.drew ?_ | refine Ext.drewN ?_ _ | refine Ext.trans ?_ (by assumption)))
  have q1 : ¬ ((60 : Int) < (n : Int)) := by omega
  clear hl
  go_enter Try.func5, Try.ntmps5
  go_wp2_with fail
  go_loopw [4] (fun i wr => ∃ k : Nat, i = .int .i64 k ∧ k ≤ n ∧ Hid (∀ j, j < k → okSt (l.getD j st0) = true) ∧ Hid (Ext w wr)) (fun i _ => n - (intOf i).toNat)
  case atStart => exact ⟨0, rfl, by omega, Lib.hid (fun j hj => absurd hj (by omega)), Lib.hid (by repeat (first | exact Ext.refl _ | assumption | refine Ext.alloc ?_ _ | refine Ext.drew ?_ | refine Ext.drewN ?_ _ | refine Ext.trans ?_ (by assumption)))⟩
  case round =>
    obtain ⟨k, rfl, hk, HA, HE⟩ := hrel
    have hx := HE.out
    by_cases hlt : k < n
    · obtain ⟨b, off, rfl, hb, hc⟩ := Sts.all (HX.out.ext hx) (by omega)
      obtain ⟨c1, c2, c3, c4⟩ := hc k hlt
      have q0 : (0 : Int) ≤ (k : Int) := by omega
      have q2 : (k : Int) < (n : Int) := by omega
      have HOK := Lib.hid (show okSt (l.getD k st0) = false → findE l = 8 from fun h => by rw [findE, if_neg (by omega), if_neg (by rw [allB_bad (n := n) (k := k) hlen hlt h]; simp)])
      have HA2 := Lib.hid (show okSt (l.getD k st0) = true → ∀ j, j < k + 1 → okSt (l.getD j st0) = true from fun h j hj => by
        by_cases e : j = k
        · subst e; exact h
        · exact HA.out j (by omega))
      clear hc
      generalize hs : l.getD k st0 = s at *
      obtain ⟨s1, s2, s3, s4⟩ := s
      simp only at c1 c2 c3 c4
      clear hs
      cases hok : okSt ⟨s1, s2, s3, s4⟩
      case false =>
        have HQ := Lib.hid (show okE ⟨s1, s2, s3, s4⟩ = 8 by rw [okE, hok]; rfl)
        have HF := Lib.hid (HOK.out hok)
        clear HOK HA2 hok
        go_wp2_with (first
          | (go_at_call 10; go_loud ((with_reducible refine (rcheck_any s1 s2 s3 s4 _).mono ?_); rintro e w2 ⟨rfl, hq⟩; rw [HQ.out])))
        go_ret2
        exact FindR.none_ HF.out (by decide) (by repeat (first | exact Ext.refl _ | assumption | refine Ext.alloc ?_ _ | refine Ext.drew ?_ | refine Ext.drewN ?_ _ | refine Ext.trans ?_ (by assumption)))
      case true =>
        have HQ := Lib.hid (show okE ⟨s1, s2, s3, s4⟩ = 0 by rw [okE, hok]; rfl)
        have HA3 := Lib.hid (HA2.out hok)
        clear HOK HA2 hok
        go_wp2_with (first
          | (go_at_call 10; go_loud ((with_reducible refine (rcheck_any s1 s2 s3 s4 _).mono ?_); rintro e w2 ⟨rfl, hq⟩; rw [HQ.out])))
        go_roundw
        case rel => exact ⟨k + 1, by go_num, by omega, HA3, Lib.hid (by repeat (first | exact Ext.refl _ | assumption | refine Ext.alloc ?_ _ | refine Ext.drew ?_ | refine Ext.drewN ?_ _ | refine Ext.trans ?_ (by assumption)))⟩
        case measure => simp [intOf]; omega
    · obtain rfl : k = n := by omega
      have HB := Lib.hid (allB_ok hlen HA.out)
      have HZ0 := Lib.hid (show (0 : Int) = ((0 : Nat) : Int) from rfl)
      have hE : findE l = 0 := by rw [findE, if_neg (by omega), if_pos HB.out]
      have HF := Lib.hid hE
      clear hE
      by_cases hn0 : k = 0
      · subst hn0
        have e1 : l = [] := List.eq_nil_of_length_eq_zero hlen
        subst e1
        go_wp2_with (first
          | (go_at_call 12; ((with_reducible refine (table_any 0 c A [] _ (HX.out.ext (by repeat (first | exact Ext.refl _ | assumption | refine Ext.alloc ?_ _ | refine Ext.drew ?_ | refine Ext.drewN ?_ _ | refine Ext.trans ?_ (by assumption)))) (by omega) (by omega)).mono ?_); rintro e w2 ⟨A2, c2, rfl, hq2, ht2⟩; have HT2 := Lib.hid ht2; clear ht2))
          | (go_at_call 11; ((with_reducible refine (made_nil c A A2 c2 _ (HT2.out.ext (by repeat (first | exact Ext.refl _ | assumption | refine Ext.alloc ?_ _ | refine Ext.drew ?_ | refine Ext.drewN ?_ _ | refine Ext.trans ?_ (by assumption))))).mono ?_); rintro e w3 ⟨rfl, hq3⟩)))
        go_ret2
        exact ⟨none, 0, rfl, by repeat (first | exact Ext.refl _ | assumption | refine Ext.alloc ?_ _ | refine Ext.drew ?_ | refine Ext.drewN ?_ _ | refine Ext.trans ?_ (by assumption)), TvK.none_ _ _ _⟩
      have hcnt := mkT_cnt k l (by rintro rfl; simp at hlen; omega) (by omega)
      go_wp2_with (first
        | (go_at_call 12; ((with_reducible refine (table_any k c A l _ (HX.out.ext (by repeat (first | exact Ext.refl _ | assumption | refine Ext.alloc ?_ _ | refine Ext.drew ?_ | refine Ext.drewN ?_ _ | refine Ext.trans ?_ (by assumption)))) (by omega) (by omega)).mono ?_); rintro e w2 ⟨A2, c2, rfl, hq2, ht2⟩; have HT2 := Lib.hid ht2; clear ht2))
        | (go_at_call 11; go_loud ((with_reducible refine (made_any k c c2 A A2 l (by omega) hlen hby k 0 k _ (Nat.le_refl _) (by omega) (by omega) (HX.out.ext (by repeat (first | exact Ext.refl _ | assumption | refine Ext.alloc ?_ _ | refine Ext.drew ?_ | refine Ext.drewN ?_ _ | refine Ext.trans ?_ (by assumption)))) (HT2.out.ext (by repeat (first | exact Ext.refl _ | assumption | refine Ext.alloc ?_ _ | refine Ext.drew ?_ | refine Ext.drewN ?_ _ | refine Ext.trans ?_ (by assumption)))) (0 : Int) (k : Int) HZ0.out rfl).mono ?_); rw [show sub l 0 k = l by rw [← hlen]; exact sub_all l]; rintro e w3 ⟨v1, rfl, hq3, hw3⟩; obtain ⟨A3, c3, rfl, hk3⟩ := own_tms hw3 (by omega); have HK3 := Lib.hid hk3; clear hw3 hk3)))
      go_ret2
      have hL : findL l = mkT k l := by rw [findL, if_pos HF.out, findT, if_neg (by rintro rfl; simp at hlen; omega), hlen]
      have hws := Below.size hx
      have hws2 := Below.size hq2
      exact ⟨A3, c3, by rw [HF.out, hL]; rfl, by repeat (first | exact Ext.refl _ | assumption | refine Ext.alloc ?_ _ | refine Ext.drew ?_ | refine Ext.drewN ?_ _ | refine Ext.trans ?_ (by assumption)), by rw [hL]; exact HK3.out.mono fun b _ hb => by omega⟩
theorem manyG_no {f : Tms → Int} {d : Nat} (hf : ∀ g, g.depth ≤ d → g.size ≤ 250 → f g = g.size) : ∀ (t : Tms) (n : Int), t.depth ≤ d + 1 → 0 ≤ n → n + t.size ≤ 250 → manyG f n t = n + t.size := by
  intro t
  induction t with
  | nil => intro n _ _ _; simp [manyG, Tms.size]
  | cons N c g r _ ih =>
    intro n hd hn h
    simp only [Tms.depth, Tms.size] at hd h
    rw [manyG, if_pos (by omega), hf g (by omega) (by omega), ih _ (by omega) (by omega) (by omega)]
    simp only [Tms.size]
    omega
theorem manyT_no : ∀ (d : Nat) (t : Tms), t.depth ≤ d → t.size ≤ 250 → manyT d t = t.size := by
  intro d
  induction d with
  | zero =>
    intro t hd _
    cases t with
    | nil => rfl
    | cons => simp [Tms.depth] at hd
  | succ d ih =>
    intro t hd hs
    rw [manyT, manyG_no (fun g h1 h2 => ih g h1 h2) t 0 hd (by omega) (by omega)]
    omega
/-- a small list is not great -/
theorem great_no {t : Tms} (hd : t.depth ≤ 12) (hs : t.size ≤ 250) : greatT t = false := by
  rw [greatT, manyT_no 12 t hd hs]
  simp
  omega
theorem find_no (l : List St) : greatT (findL l) = false := by
  unfold findL
  split
  · rename_i h
    by_cases hl : l = []
    · subst hl; rfl
    · have h60 : l.length ≤ 60 := by
        unfold findE at h
        split at h
        · cases h
        · omega
      obtain ⟨h1, h2⟩ := find_small hl h60
      exact great_no (by omega) (by omega)
  · rfl
theorem find_size (l : List St) : (findL l).size ≤ 250 := great_size (find_no l)
end Go.Proofs.Ytgbmeefcnjdjbaa
