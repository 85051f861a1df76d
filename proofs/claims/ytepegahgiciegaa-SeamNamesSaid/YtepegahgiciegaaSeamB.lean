/- The contracts of Check and Shares of seam. -/
import Derived.Test.YtepegahgiciegaaSeamA
import Derived.Laws.StructEq
import Derived.Deep.RegionHeld3
namespace Go.Proofs.Ytepegahgiciegaa
open Go.RowKit
attribute [local go_sem] run_pair_eq

set_option maxHeartbeats 1000000 in
theorem check_any (n c : Nat) (A : Option Addr) (l : List (Int × Int)) (a b : Int) (w : World) (hl : Vec shPair w A n l) (hm : n ≤ maxLen) :
    Calls Try.prog 24 #[.slice A n c, .int .i64 a, .int .i64 b] w fun e w' => e = .returned (.int .i64 (chkE l a b)) ∧ Ext w w' := by
  have HX := Lib.hid hl
  clear hl
  unfold maxLen at hm
  cases h : edOk a b
  · have HE := Lib.hid (show edB a b = 2 by simp [edB, h])
    have HK := Lib.hid (show chkE l a b = 2 by simp [chkE, h])
    clear h
    go_enter Try.func24, Try.ntmps24
    go_wp2_with (go_at_call 30; ((with_reducible refine (edges2 a b _).mono ?_); rintro e w2 ⟨rfl, rfl⟩; rw [HE.out]))
    go_ret
    exact ⟨by rw [HK.out]; rfl, by repeat (first | exact Ext.refl _ | assumption | refine Ext.alloc ?_ _ | refine Ext.drew ?_ | refine Ext.drewN ?_ _ | refine Ext.trans ?_ (by assumption))⟩
  have HE := Lib.hid (show edB a b = 0 by simp [edB, h])
  have HK := Lib.hid (show chkE l a b = if seamB l a b then 0 else 30 by simp [chkE, h])
  obtain ⟨a0, a1, b0, b1⟩ := edOk_e h
  clear h
  by_cases hn0 : n = 0
  · subst hn0
    have HS := Lib.hid (show seamB l a b = false by simp [seamB, HX.out.1])
    go_enter Try.func24, Try.ntmps24
    go_wp2_with (go_at_call 30; ((with_reducible refine (edges2 a b _).mono ?_); rintro e w2 ⟨rfl, rfl⟩; rw [HE.out]))
    go_ret
    exact ⟨by rw [HK.out, HS.out]; rfl, by repeat (first | exact Ext.refl _ | assumption | refine Ext.alloc ?_ _ | refine Ext.drew ?_ | refine Ext.drewN ?_ _ | refine Ext.trans ?_ (by assumption))⟩
  obtain ⟨A1, o1, rfl, hb1, hc⟩ := Prs.all HX.out (by omega)
  have HC := Lib.hid hc
  have hne : ((n : Int) == 0) = false := by rw [beq_eq_false_iff_ne]; omega
  obtain ⟨g1, g2⟩ := hc 0 (by omega)
  obtain ⟨g3, g4⟩ := hc (n - 1) (by omega)
  clear hc
  rw [Nat.zero_mul, Nat.add_zero] at g1 g2
  by_cases hp : l.getD 0 (0, 0) = (0, 0)
  case neg =>
    have HS := Lib.hid (show seamB l a b = false by simp only [seamB, decide_eq_false hp, Bool.and_false, Bool.false_and])
    generalize l.getD 0 (0, 0) = p0 at *
    obtain ⟨x, y⟩ := p0
    have hp' : ¬ (x = 0 ∧ y = 0) := by simpa using hp
    clear hp
    go_enter Try.func24, Try.ntmps24
    go_wp2_with (go_at_call 30; ((with_reducible refine (edges2 a b _).mono ?_); rintro e w2 ⟨rfl, rfl⟩; rw [HE.out]))
    go_ret
    exact ⟨by rw [HK.out, HS.out]; rfl, by repeat (first | exact Ext.refl _ | assumption | refine Ext.alloc ?_ _ | refine Ext.drew ?_ | refine Ext.drewN ?_ _ | refine Ext.trans ?_ (by assumption))⟩
  have HP := Lib.hid hp
  rw [hp] at g1 g2
  clear hp
  have hln := HX.out.1
  by_cases hz : l.getD (n - 1) (0, 0) = (a - 1, b - 1)
  case neg =>
    have HS := Lib.hid (show seamB l a b = false by
      have : ¬ l.getD (l.length - 1) (0, 0) = (a - 1, b - 1) := by rw [hln]; exact hz
      simp only [seamB, decide_eq_false this, Bool.and_false, Bool.false_and])
    clear hln
    generalize l.getD (n - 1) (0, 0) = p0 at *
    obtain ⟨x, y⟩ := p0
    have hp' : ¬ (x = a - 1 ∧ y = b - 1) := by simpa using hz
    clear hz
    go_enter Try.func24, Try.ntmps24
    go_wp2_with (go_at_call 30; ((with_reducible refine (edges2 a b _).mono ?_); rintro e w2 ⟨rfl, rfl⟩; rw [HE.out]))
    · go_ret
      exact ⟨by rw [HK.out, HS.out]; rfl, by repeat (first | exact Ext.refl _ | assumption | refine Ext.alloc ?_ _ | refine Ext.drew ?_ | refine Ext.drewN ?_ _ | refine Ext.trans ?_ (by assumption))⟩
    · exfalso
      have h9 : (!x == a - 1) = false ∧ (!y == b - 1) = false := by assumption
      simp at h9
      exact hp' h9
  have HZ := Lib.hid hz
  rw [hz] at g3 g4
  have HLN := Lib.hid hln
  clear hz hln
  go_enter Try.func24, Try.ntmps24
  go_wp2_with (go_at_call 30; ((with_reducible refine (edges2 a b _).mono ?_); rintro e w2 ⟨rfl, rfl⟩; rw [HE.out]))
  clear g1 g2 g3 g4
  go_loopw [8] (fun i wr => ∃ k : Nat, 1 ≤ k ∧ k ≤ n ∧ i = .int .i64 k ∧ Hid (∀ j, 1 ≤ j → j < k → stepAt l j = true) ∧ Hid (Ext w wr)) (fun i _ => n - (intOf i).toNat)
  case atStart => exact ⟨1, by omega, by omega, rfl, fun j h1 h2 => absurd h2 (by omega), (Ext.refl _).alloc _⟩
  case round =>
    obtain ⟨k, hk1, hk, rfl, hall, hext⟩ := hrel
    by_cases hlt : k < n
    · obtain ⟨k, rfl⟩ : ∃ m, k = m + 1 := ⟨k - 1, by omega⟩
      obtain ⟨g1, g2⟩ := HC.out k (by omega)
      obtain ⟨g3, g4⟩ := HC.out (k + 1) hlt
      have c1 := (Below.cell (p := ⟨A1, o1 + k * 2, none⟩) hext.out hb1).trans g1
      have c2 := (Below.cell (p := ⟨A1, o1 + k * 2 + 1, none⟩) hext.out hb1).trans g2
      have c3 := (Below.cell (p := ⟨A1, o1 + (k + 1) * 2, none⟩) hext.out hb1).trans g3
      have c4 := (Below.cell (p := ⟨A1, o1 + (k + 1) * 2 + 1, none⟩) hext.out hb1).trans g4
      clear g1 g2 g3 g4
      have hz1 := World.block_lt_of_cell? wr _ c1
      have hu := seam_up HP.out hall.out k (by omega)
      have hst : stepAt l (k + 1) = stepB (l.getD k (0, 0)) (l.getD (k + 1) (0, 0)) := rfl
      have i0 : (0 : Int) ≤ (k : Int) := by omega
      have i1 : (k : Int) < (n : Int) := by omega
      have i2 : (0 : Int) ≤ (k : Int) + 1 := by omega
      have i3 : (k : Int) + 1 < (n : Int) := by omega
      have f1 := IntWalk.i64_in (k : Int) (by omega)
      have f2 : ((k : Int) + 1).toNat = k + 1 := by omega
      cases hs : stepAt l (k + 1)
      · have HS := Lib.hid (show seamB l a b = false from seamB_no hk1 (by rw [HLN.out]; exact hlt) hs)
        rw [hst] at hs
        clear hst
        generalize l.getD k (0, 0) = p at *
        generalize l.getD (k + 1) (0, 0) = q at *
        obtain ⟨px, py⟩ := p
        obtain ⟨qx, qy⟩ := q
        simp only [stepB, Bool.or_eq_false_iff, decide_eq_false_iff_not, Prod.mk.injEq] at hs
        obtain ⟨⟨s1, s2⟩, s3⟩ := hs
        replace s1 : ¬ ((qx == px + 1) = true ∧ (qy == py) = true) := by simpa using s1
        replace s2 : ¬ ((qx == px) = true ∧ (qy == py + 1) = true) := by simpa using s2
        replace s3 : ¬ ((qx == px + 1) = true ∧ (qy == py + 1) = true) := by simpa using s3
        obtain ⟨u0, u1, u2, u3⟩ := hu
        simp only at c1 c2 c3 c4 u0 u1 u2 u3
        go_wp2_with fail
        go_region_held3 (fun w' => w'.cell? ⟨A1, o1 + k * 2, none⟩ = some (.int .i64 px) ∧ w'.cell? ⟨A1, o1 + k * 2 + 1, none⟩ = some (.int .i64 py) ∧ w'.cell? ⟨A1, o1 + (k + 1) * 2, none⟩ = some (.int .i64 qx) ∧ w'.cell? ⟨A1, o1 + (k + 1) * 2 + 1, none⟩ = some (.int .i64 qy)) (go_keep) (fail)
        have := hext.out
        all_goals
          go_wp2
          all_goals first | (go_ret; exact ⟨by rw [HK.out, HS.out]; rfl, by repeat (first | exact Ext.refl _ | assumption | refine Ext.alloc ?_ _ | refine Ext.drew ?_ | refine Ext.drewN ?_ _ | refine Ext.trans ?_ (by assumption))⟩) | (exfalso; first | exact s1 (by assumption) | exact s2 (by assumption) | exact s3 (by assumption))
      · have HA := Lib.hid (show ∀ j, 1 ≤ j → j < k + 1 + 1 → stepAt l j = true from fun j h1 h2 => by
          rcases Nat.lt_or_ge j (k + 1) with e | e
          · exact hall.out j h1 e
          · obtain rfl : j = k + 1 := by omega
            exact hs)
        rw [hst] at hs
        clear hst
        generalize l.getD k (0, 0) = p at *
        generalize l.getD (k + 1) (0, 0) = q at *
        obtain ⟨px, py⟩ := p
        obtain ⟨qx, qy⟩ := q
        simp only [stepB, Bool.or_eq_true, decide_eq_true_eq, Prod.mk.injEq] at hs
        obtain ⟨u0, u1, u2, u3⟩ := hu
        simp only at c1 c2 c3 c4 u0 u1 u2 u3
        have := hext.out
        rcases hs with (⟨rfl, rfl⟩ | ⟨rfl, rfl⟩) | ⟨rfl, rfl⟩
        · have n1 : ((qy : Int) + 1 == qy) = false := by rw [beq_eq_false_iff_ne]; omega
          have n2 : ((px : Int) + 1 == px) = false := by rw [beq_eq_false_iff_ne]; omega
          go_wp2_with fail
          go_region_held3 (fun w' => w'.cell? ⟨A1, o1 + k * 2, none⟩ = some (.int .i64 px) ∧ w'.cell? ⟨A1, o1 + k * 2 + 1, none⟩ = some (.int .i64 qy) ∧ w'.cell? ⟨A1, o1 + (k + 1) * 2, none⟩ = some (.int .i64 (px + 1)) ∧ w'.cell? ⟨A1, o1 + (k + 1) * 2 + 1, none⟩ = some (.int .i64 qy)) (go_keep) (fail)
          all_goals
            go_wp2
            go_roundw
            case rel => exact ⟨k + 1 + 1, by omega, by omega, by go_num, HA, by repeat (first | exact Ext.refl _ | assumption | refine Ext.alloc ?_ _ | refine Ext.drew ?_ | refine Ext.drewN ?_ _ | refine Ext.trans ?_ (by assumption))⟩
            case measure => simp [intOf]; omega
        · have n1 : ((py : Int) + 1 == py) = false := by rw [beq_eq_false_iff_ne]; omega
          have n2 : ((qx : Int) + 1 == qx) = false := by rw [beq_eq_false_iff_ne]; omega
          go_wp2_with fail
          go_region_held3 (fun w' => w'.cell? ⟨A1, o1 + k * 2, none⟩ = some (.int .i64 qx) ∧ w'.cell? ⟨A1, o1 + k * 2 + 1, none⟩ = some (.int .i64 py) ∧ w'.cell? ⟨A1, o1 + (k + 1) * 2, none⟩ = some (.int .i64 qx) ∧ w'.cell? ⟨A1, o1 + (k + 1) * 2 + 1, none⟩ = some (.int .i64 (py + 1))) (go_keep) (fail)
          all_goals
            go_wp2
            go_roundw
            case rel => exact ⟨k + 1 + 1, by omega, by omega, by go_num, HA, by repeat (first | exact Ext.refl _ | assumption | refine Ext.alloc ?_ _ | refine Ext.drew ?_ | refine Ext.drewN ?_ _ | refine Ext.trans ?_ (by assumption))⟩
            case measure => simp [intOf]; omega
        · have n1 : ((py : Int) + 1 == py) = false := by rw [beq_eq_false_iff_ne]; omega
          have n2 : ((px : Int) + 1 == px) = false := by rw [beq_eq_false_iff_ne]; omega
          go_wp2_with fail
          go_region_held3 (fun w' => w'.cell? ⟨A1, o1 + k * 2, none⟩ = some (.int .i64 px) ∧ w'.cell? ⟨A1, o1 + k * 2 + 1, none⟩ = some (.int .i64 py) ∧ w'.cell? ⟨A1, o1 + (k + 1) * 2, none⟩ = some (.int .i64 (px + 1)) ∧ w'.cell? ⟨A1, o1 + (k + 1) * 2 + 1, none⟩ = some (.int .i64 (py + 1))) (go_keep) (fail)
          all_goals
            go_wp2
            go_roundw
            case rel => exact ⟨k + 1 + 1, by omega, by omega, by go_num, HA, by repeat (first | exact Ext.refl _ | assumption | refine Ext.alloc ?_ _ | refine Ext.drew ?_ | refine Ext.drewN ?_ _ | refine Ext.trans ?_ (by assumption))⟩
            case measure => simp [intOf]; omega
    · obtain rfl : k = n := by omega
      have HS := Lib.hid (show seamB l a b = true from seamB_i HLN.out (by omega) HP.out HZ.out hall.out)
      have := hext.out
      go_wp2
      go_ret
      exact ⟨by rw [HK.out, HS.out]; rfl, by repeat (first | exact Ext.refl _ | assumption | refine Ext.alloc ?_ _ | refine Ext.drew ?_ | refine Ext.drewN ?_ _ | refine Ext.trans ?_ (by assumption))⟩
end Go.Proofs.Ytepegahgiciegaa
