/- The reference's Other, Turned and Seen. -/
import Derived.Test.YtpcefmopoceiiaaGreatDoorOther
import Derived.Test.YtpcefmopoceiiaaGreatDoorTurnR
import Derived.Test.YtpcefmopoceiiaaGreatDoorStitchR
import Derived.Test.YtpcefmopoceiiaaGreatDoorApp
namespace Go.Proofs.YtpcefmopoceiiaaGreatDoor
set_option maxRecDepth 100000
open Go.RowKit Go.ChangeShapes Go.WideShapes Go.Joins
set_option maxRecDepth 100000 in
set_option maxHeartbeats 4000000 in
theorem rother_any (s : St) (h : okSt s = true) (w : World) :
    Calls Tryz.prog 31 #[.agg (stc s).toArray] w fun e w' => e = .returned (.agg (stc (otherSt s)).toArray) ∧ Ext w w' := by
  obtain ⟨k, p, a, b⟩ := s
  have hb : Ext w ((w.alloc (.cells #[.int .u8 k, .bool p, .int .i64 a, .int .i64 b] 42)).alloc (.cells #[.int .u8 0, .bool false, .int .i64 0, .int .i64 0] 42)) := ((Ext.refl w).alloc _).alloc _
  have HB := Lib.hid hb
  clear hb
  have hlow := okSt_low h
  rcases kind_cases (ok_kind h) with e | e | e | e | e | e | e | e | e | e <;> simp only at e <;> subst e <;> clear h <;> simp at hlow <;> (try subst hlow) <;> simp [stc, otherSt, fsd]
  all_goals
    go_enter Tryz.func31, Tryz.ntmps31
    go_wp2
    refine bodyPost_ret ?hr rfl ⟨rfl, by repeat (first | exact Ext.refl _ | assumption | refine Ext.alloc ?_ _ | refine Ext.drew ?_ | refine Ext.drewN ?_ _ | refine Ext.trans ?_ (by assumption))⟩
    case hr => simp [results, Tryz.f31, go_sem]
set_option maxRecDepth 100000 in
set_option maxHeartbeats 4000000 in
theorem rturned_any (n c : Nat) (A : Option Addr) (l : List St) (w : World) (hl : Vec shSt w A n l) (hn : n ≤ 200) (ho : allB l = true) :
    Calls Tryz.prog 16 #[.slice A n c] w fun e w' => ∃ v, e = .returned v ∧ Ext w w' ∧ OwnV shSt w' w.heap.size 42 v n (turnL l) := by
  have HX := Lib.hid hl
  have HL := Lib.hid hl.1
  have HO := Lib.hid ho
  clear hl ho
  go_enter Tryz.func16, Tryz.ntmps16
  go_wp2_with fail
  go_loopw [3, 4] (fun u i wr => ∃ (V : Value) (k : Nat) (z : Int), V = u ∧ i = .int .i64 z ∧ z + 1 = k ∧ k ≤ n ∧ Hid (OwnV shSt wr w.heap.size 42 V (n - k) (turnL (l.drop k))) ∧ Hid (Ext w wr)) (fun _ i _ => (intOf i + 1).toNat)
  case atStart =>
    refine ⟨_, n, (n : Int) - 1, rfl, by go_num, by omega, Nat.le_refl _, Lib.hid ?_, Lib.hid (by repeat (first | exact Ext.refl _ | assumption | refine Ext.alloc ?_ _ | refine Ext.drew ?_ | refine Ext.drewN ?_ _ | refine Ext.trans ?_ (by assumption)))⟩
    rw [Nat.sub_self, List.drop_of_length_le (Nat.le_of_eq HL.out)]
    exact OwnV.nil _ _ _ _
  case round =>
    obtain ⟨V, k, z, rfl, rfl, hz, hk, HV, HE⟩ := hrel
    have hxr := HE.out
    rcases k with _ | k
    · obtain rfl : z = -1 := by omega
      have hv := HV.out
      simp only [List.drop_zero, Nat.sub_zero] at hv
      have HV2 := Lib.hid hv
      clear hv
      go_wp2
      go_ret
      exact ⟨_, rfl, hxr, HV2.out⟩
    · obtain rfl : z = (k : Int) := by omega
      obtain ⟨b, off, rfl, hb1, hc⟩ := Sts.all (Vec.ext HX.out HE.out) (by omega)
      obtain ⟨c1, c2, c3, c4⟩ := hc k (by omega)
      clear hc hz
      have HT := Lib.hid (turnL_drop (l := l) (k := k) (by rw [HL.out]; omega))
      have hok := allB_at HO.out (k := k) (by rw [HL.out]; omega)
      generalize l.getD k st0 = s at *
      obtain ⟨sk, sp, sa, sb⟩ := s
      simp only at c1 c2 c3 c4
      have q0 : (0 : Int) ≤ (k : Int) := by omega
      have q1 : (k : Int) < (n : Int) := by omega
      obtain ⟨tk, tp, ta, tb, hot⟩ : ∃ tk tp ta tb, otherSt ⟨sk, sp, sa, sb⟩ = ⟨tk, tp, ta, tb⟩ := ⟨_, _, _, _, rfl⟩
      have HC := Lib.hid (show ∀ w', Calls Tryz.prog 31 #[.agg #[.int .u8 sk, .bool sp, .int .i64 sa, .int .i64 sb]] w' fun e w'' => e = .returned (.agg #[.int .u8 tk, .bool tp, .int .i64 ta, .int .i64 tb]) ∧ Ext w' w'' from fun w' => by
        have h9 := rother_any ⟨sk, sp, sa, sb⟩ hok w'
        rw [hot] at h9
        exact h9)
      have HT2 := Lib.hid (show turnL (l.drop k) = turnL (l.drop (k + 1)) ++ [⟨tk, tp, ta, tb⟩] by rw [HT.out, hot])
      clear hot hok
      go_wp2_with (first
        | (go_at_call 31; ((with_reducible refine (HC.out _).mono ?_); rintro e w1 ⟨rfl, hq1⟩))
        | (at_builtin; refine wpList_append_vecsB (S := shSt) (w := w) (m := 1) (xs := [⟨tk, tp, ta, tb⟩]) 22 42 (.agg #[.int .u8 0, .bool false, .int .i64 0, .int .i64 0]) 24 (by rfl) (by rfl) Tryz.underlying22 info_st (by rfl) (by omega) (by rfl) (by rfl) (OwnV.ext HV.out (by repeat (first | exact Ext.refl _ | assumption | refine Ext.alloc ?_ _ | refine Ext.drew ?_ | refine Ext.drewN ?_ _ | refine Ext.trans ?_ (by assumption)))) (by repeat (first | exact Ext.refl _ | assumption | refine Ext.alloc ?_ _ | refine Ext.drew ?_ | refine Ext.drewN ?_ _ | refine Ext.trans ?_ (by assumption))) (Vec.lit2 (by simp) rfl rfl) (by omega) ?_; intro v' w3 hown3 hext3 hgr3))
      have HN := Lib.hid (show OwnV shSt w3 w.heap.size 42 v' (n - k) (turnL (l.drop k)) by rw [HT2.out, show n - k = n - (k + 1) + 1 by omega]; exact hown3)
      go_roundw
      case rel => exact ⟨v', k, (k : Int) - 1, rfl, by go_num, by omega, by omega, HN, hext3⟩
      case measure => simp [intOf]
/-- a row as it is seen -/
def seenL (b : Bool) (l : List St) : List St := if b then turnL l else l
end Go.Proofs.YtpcefmopoceiiaaGreatDoor
