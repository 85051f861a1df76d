/- Find of the shortest list. -/
import Derived.Test.YtgbmeefcnjdjbaaFindJ
namespace Go.Proofs.Ytgbmeefcnjdjbaa
set_option maxRecDepth 100000
set_option maxRecDepth 100000
open Go.RowKit Go.ChangeShapes Go.WideShapes Go.Joins
/-- what Find returns -/
def findE (l : List St) : Int := if 60 < l.length then 4 else if allB l = true then 0 else 8
def findL (l : List St) : Tms := if findE l = 0 then findT l else .nil
def FindR (l : List St) (w : World) (e : Ending) (w' : World) : Prop :=
  ∃ (A : Option Addr) (c : Nat), e = .returned (.tuple #[.slice A (findL l).cnt c, .int .i64 (findE l)]) ∧ Ext w w' ∧ TvK w' (fun b => w.heap.size ≤ b) A (findL l).cnt (findL l)
theorem FindR.none_ {l : List St} {w w' : World} {x : Int} (hx : findE l = x) (h0 : x ≠ 0) (h : Ext w w') : FindR l w (.returned (.tuple #[.slice none 0 0, .int .i64 x])) w' := by
  have h1 : findL l = .nil := by rw [findL, if_neg (by rw [hx]; exact h0)]
  exact ⟨none, 0, by rw [h1, hx]; rfl, h, by rw [h1]; exact TvK.none_ _ _ _⟩
set_option maxHeartbeats 8000000 in
theorem find_any (n c : Nat) (A : Option Addr) (l : List St) (w : World) (hl : Vec shSt w A n l) (hby : Bytes l) (hn : n ≤ maxLen) :
    Calls Try.prog 4 #[.slice A n c] w (FindR l w) := by
  have HX := Lib.hid hl
  have hlen := hl.1
  unfold maxLen at hn
  by_cases hn60 : 60 < n
  · have q1 : ((60 : Int) < (n : Int)) := by omega
    have HE := Lib.hid (show findE l = 4 by rw [findE, if_pos (by omega)])
    clear hl
    go_enter Try.func4, Try.ntmps4
    go_wp2_with fail
    go_ret2
    exact FindR.none_ HE.out (by decide) (by repeat (first | exact Ext.refl _ | assumption | refine Ext.alloc ?_ _ | refine Ext.drew ?_ | refine Ext.drewN ?_ _ | refine Ext.trans ?_ (by assumption)))
  have q1 : ¬ ((60 : Int) < (n : Int)) := by omega
  clear hl
  go_enter Try.func4, Try.ntmps4
  go_wp2_with fail
  go_loopw [12] (fun i wr => ∃ k : Nat, i = .int .i64 k ∧ k ≤ n ∧ Hid (∀ j, j < k → okSt (l.getD j st0) = true) ∧ Hid (Ext w wr)) (fun i _ => n - (intOf i).toNat)
  case atStart => exact ⟨0, rfl, by omega, Lib.hid (fun j hj => absurd hj (by omega)), Lib.hid (by repeat (first | exact Ext.refl _ | assumption | refine Ext.alloc ?_ _ | refine Ext.drew ?_ | refine Ext.drewN ?_ _ | refine Ext.trans ?_ (by assumption)))⟩
  case round =>
    obtain ⟨k, rfl, hk, HA, HE⟩ := hrel
    have hx := HE.out
    by_cases hlt : k < n
    · obtain ⟨b, off, rfl, hb, hc⟩ := Sts.all (HX.out.ext hx) (by omega)
      obtain ⟨c1, c2, c3, c4⟩ := hc k hlt
      have hby1 := hby k (by omega)
      have q0 : (0 : Int) ≤ (k : Int) := by omega
      have q2 : (k : Int) < (n : Int) := by omega
      have HOK := Lib.hid (show okSt (l.getD k st0) = false → findE l = 8 from fun h => by rw [findE, if_neg (by omega), if_neg (by rw [allB_bad (n := n) (k := k) hlen hlt h]; simp)])
      have HA2 := Lib.hid (show okSt (l.getD k st0) = true → ∀ j, j < k + 1 → okSt (l.getD j st0) = true from fun h j hj => by
        by_cases e : j = k
        · subst e; exact h
        · exact HA.out j (by omega))
      clear hc
      generalize hs : l.getD k st0 = s at *
      obtain ⟨s1, s2, s3, s4⟩ := s
      simp only at c1 c2 c3 c4 hby1
      clear hs
      cases hok : okSt ⟨s1, s2, s3, s4⟩
      case false =>
        have HQ := Lib.hid (show okE ⟨s1, s2, s3, s4⟩ = 8 by rw [okE, hok]; rfl)
        have HF := Lib.hid (HOK.out hok)
        clear HOK HA2 hok
        go_wp2_with (first
          | (go_at_call 8; go_loud ((with_reducible refine (check_any s1 s2 s3 s4 hby1.1 hby1.2 _).mono ?_); rintro e w2 ⟨rfl, hq⟩; rw [HQ.out])))
        go_ret2
        exact FindR.none_ HF.out (by decide) (by repeat (first | exact Ext.refl _ | assumption | refine Ext.alloc ?_ _ | refine Ext.drew ?_ | refine Ext.drewN ?_ _ | refine Ext.trans ?_ (by assumption)))
      case true =>
        have HQ := Lib.hid (show okE ⟨s1, s2, s3, s4⟩ = 0 by rw [okE, hok]; rfl)
        have HA3 := Lib.hid (HA2.out hok)
        clear HOK HA2 hok
        go_wp2_with (first
          | (go_at_call 8; go_loud ((with_reducible refine (check_any s1 s2 s3 s4 hby1.1 hby1.2 _).mono ?_); rintro e w2 ⟨rfl, hq⟩; rw [HQ.out])))
        go_roundw
        case rel => exact ⟨k + 1, by go_num, by omega, HA3, Lib.hid (by repeat (first | exact Ext.refl _ | assumption | refine Ext.alloc ?_ _ | refine Ext.drew ?_ | refine Ext.drewN ?_ _ | refine Ext.trans ?_ (by assumption)))⟩
        case measure => simp [intOf]; omega
    · obtain rfl : k = n := by omega
      have hall := allB_ok hlen HA.out
      have HB := Lib.hid hall
      by_cases hn0 : k = 0
      · subst hn0
        go_wp2_with fail
        go_ret2
        have e1 : l = [] := List.eq_nil_of_length_eq_zero hlen
        subst e1
        exact ⟨none, 0, rfl, HE.out, TvK.none_ _ _ _⟩
      have hn1 : ¬ ((k : Int) = 0) := by omega
      have hn2 : ((k : Int) == 0) = false := by rw [beq_eq_false_iff_ne]; exact hn1
      obtain ⟨Z, hZ, hZs, hZ0⟩ := zero_finder wr
      have hZe : ¬ (Z = #[]) := by rintro rfl; simp at hZs
      have HF := Lib.hid (FAt.new_ wr (t := 40) A k c hZs hZ0)
      have HNE := Lib.hid (show ∀ b off, A = some ⟨b, off, none⟩ → b ≠ wr.heap.size from fun b off e => by
        obtain ⟨b', off', e', hb, _⟩ := HX.out.2 (by omega)
        rw [e] at e'
        cases e'
        have := Below.size hx
        omega)
      have HV := Lib.hid (HX.out.ext (hx.trans ((Ext.refl wr).alloc (Obj.cells (Z.setIfInBounds 0 (Value.slice A k c)) 40))))
      have HW := Lib.hid (show Ext w (wr.alloc (Obj.cells (Z.setIfInBounds 0 (Value.slice A k c)) 40)) from hx.trans ((Ext.refl _).alloc _))
      have hsz : (wr.alloc (Obj.cells (Z.setIfInBounds 0 (Value.slice A k c)) 40)).heap.size = wr.heap.size + 1 := by simp
      clear hZs hZ0
      have HZ0 := Lib.hid (show (0 : Int) = ((0 : Nat) : Int) from rfl)
      go_upto_region 12 with (fail)
      generalize hwf : wr.alloc (Obj.cells (Z.setIfInBounds 0 (Value.slice A k c)) 40) = wf at *
      clear hZ hwf hn1 hn2
      have hcnt := mkT_cnt k l (by rintro rfl; simp at hlen; omega) (by omega)
      go_wp2_with (first
        | (go_at_call 9; go_loud ((with_reducible refine (list_any wr.heap.size k c A l (by omega) hlen hby HNE.out k 0 k _ _ (Nat.le_refl _) (by omega) (by omega) HV.out HF.out (TabOk.empty l) (0 : Int) (k : Int) HZ0.out rfl).mono ?_); rw [show sub l 0 k = l by rw [← hlen]; exact sub_all l]; rintro e w2 ⟨v1, tab2, rfl, hf2, ho2, hb2, hw2⟩; obtain ⟨A2, c2, rfl, hk2⟩ := own_tms hw2 (by omega); have HB2 := Lib.hid hb2; have HK2 := Lib.hid hk2; clear hf2 ho2 hb2 hw2 hk2)))
      go_ret2
      have hE : findE l = 0 := by rw [findE, if_neg (by omega), if_pos HB.out]
      have hL : findL l = mkT k l := by rw [findL, if_pos hE, findT, if_neg (by rintro rfl; simp at hlen; omega), hlen]
      have hws := Below.size hx
      refine ⟨A2, c2, by rw [hE, hL]; rfl, ?_, by rw [hL]; exact HK2.out.mono fun b _ hb => by omega⟩
      exact Below.trans HW.out (HB2.out.below (by omega) (fun k h => by cases h; exact hws))
end Go.Proofs.Ytgbmeefcnjdjbaa
