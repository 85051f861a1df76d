/- The contracts of the reference of seam, second part. -/
import Derived.Test.YtepegahgiciegaaSeamR
import Derived.Test.YtepegahgiciegaaSeamC
namespace Go.Proofs.Ytepegahgiciegaa
open Go.RowKit
attribute [local go_sem] run_pair_eq

set_option maxRecDepth 100000 in
set_option maxHeartbeats 1000000 in
theorem rmarked_any (a b : Int) (n m c d : Nat) (A B : Option Addr) (am bm : List Int) (w : World) (hx : Ints w A n am) (hy : Ints w B m bm) (hn : n ≤ maxLen) (hm : m ≤ maxLen) :
    Calls Try.prog 20 #[.int .i64 a, .int .i64 b, .slice A n c, .slice B m d] w (PrsE w (mkdL a b am bm) (mkE a b am bm)) := by
  have HX := Lib.hid hx
  have HY := Lib.hid hy
  have hnl := hx.1
  have hml := hy.1
  clear hx hy
  have hnm : n ≤ 9223372036854775807 ∧ m ≤ 9223372036854775807 := by unfold maxLen at hn hm; omega
  obtain ⟨hn1, hm1⟩ := hnm
  have HN := Lib.hid hnl
  have HM := Lib.hid hml
  clear hnl hml
  cases h : edOk a b
  · have hk : mkE a b am bm = 2 := by simp [mkE, h]
    rw [edOk, Bool.and_eq_false_iff] at h
    have h' : inR a 1 1000 = false ∨ (inR a 1 1000 = true ∧ inR b 1 1000 = false) := by
      cases e : inR a 1 1000
      · exact .inl rfl
      · rw [e] at h; simp at h; exact .inr ⟨rfl, h⟩
    clear h
    rcases h' with h1 | ⟨h1, h2⟩
    all_goals
      have HK := Lib.hid hk
      have HL := Lib.hid (show mkdL a b am bm = [] by rw [mkdL, hk, if_neg (by omega)])
      clear hk
      go_enter Try.func20, Try.ntmps20
      go_wp2_with (first | (go_at_call 31; ((with_reducible refine (edge_any _ _).mono ?_); rintro e w2 ⟨rfl, rfl⟩)))
      all_goals go_ret2
      all_goals exact PrsE.mk none 0 (by rw [HL.out, HK.out]; rfl) (by rw [HL.out]; exact Vec.none_ _ _ _) (by repeat (first | exact Ext.refl _ | assumption | refine Ext.alloc ?_ _ | refine Ext.drew ?_ | refine Ext.drewN ?_ _ | refine Ext.trans ?_ (by assumption)))
  obtain ⟨a0, a1, b0, b1⟩ := edOk_e h
  have i1 := inR_t a0 a1
  have i2 := inR_t b0 b1
  by_cases hc1 : 50 < n ∨ 50 < m
  · have hk : mkE a b am bm = 4 := by rw [mkE, if_pos h, if_pos (by rw [HN.out, HM.out]; exact hc1)]
    clear h
    rcases hc1 with hc1 | hc1
    all_goals
      have HK := Lib.hid hk
      have HL := Lib.hid (show mkdL a b am bm = [] by rw [mkdL, hk, if_neg (by omega)])
      clear hk
      go_enter Try.func20, Try.ntmps20
      go_wp2_with (first | (go_at_call 31; ((with_reducible refine (edge_any _ _).mono ?_); rintro e w2 ⟨rfl, rfl⟩)))
      all_goals go_ret2
      all_goals exact PrsE.mk none 0 (by rw [HL.out, HK.out]; rfl) (by rw [HL.out]; exact Vec.none_ _ _ _) (by repeat (first | exact Ext.refl _ | assumption | refine Ext.alloc ?_ _ | refine Ext.drew ?_ | refine Ext.drewN ?_ _ | refine Ext.trans ?_ (by assumption)))
  have hc2 : n ≤ 50 ∧ m ≤ 50 := by omega
  obtain ⟨hc2, hc3⟩ := hc2
  cases h1 : mkOk am a
  · have hk : mkE a b am bm = 8 := by rw [mkE, if_pos h, if_neg (by rw [HN.out, HM.out]; exact hc1), h1]; rfl
    clear h
    have HK := Lib.hid hk
    have HL := Lib.hid (show mkdL a b am bm = [] by rw [mkdL, hk, if_neg (by omega)])
    clear hk
    go_enter Try.func20, Try.ntmps20
    go_wp2_with (first | (go_at_call 31; ((with_reducible refine (edge_any _ _).mono ?_); rintro e w2 ⟨rfl, rfl⟩)) | (first | (go_at_call 36; ((with_reducible refine (rmarksb_any n c A am a _ HX.out hn a0 a1).mono ?_); rintro e w3 ⟨rfl, hq⟩)) | (go_at_call 36; ((with_reducible refine (rmarksb_any m d B bm b _ (Ints.ext HY.out hq) hm b0 b1).mono ?_); rintro e w4 ⟨rfl, hq2⟩))))
    all_goals go_ret2
    all_goals exact PrsE.mk none 0 (by rw [HL.out, HK.out]; rfl) (by rw [HL.out]; exact Vec.none_ _ _ _) (by repeat (first | exact Ext.refl _ | assumption | refine Ext.alloc ?_ _ | refine Ext.drew ?_ | refine Ext.drewN ?_ _ | refine Ext.trans ?_ (by assumption)))
  cases h2 : mkOk bm b
  · have hk : mkE a b am bm = 8 := by rw [mkE, if_pos h, if_neg (by rw [HN.out, HM.out]; exact hc1), h2, Bool.and_false]; rfl
    clear h
    have HK := Lib.hid hk
    have HL := Lib.hid (show mkdL a b am bm = [] by rw [mkdL, hk, if_neg (by omega)])
    clear hk
    go_enter Try.func20, Try.ntmps20
    go_wp2_with (first | (go_at_call 31; ((with_reducible refine (edge_any _ _).mono ?_); rintro e w2 ⟨rfl, rfl⟩)) | (first | (go_at_call 36; ((with_reducible refine (rmarksb_any n c A am a _ HX.out hn a0 a1).mono ?_); rintro e w3 ⟨rfl, hq⟩)) | (go_at_call 36; ((with_reducible refine (rmarksb_any m d B bm b _ (Ints.ext HY.out hq) hm b0 b1).mono ?_); rintro e w4 ⟨rfl, hq2⟩))))
    all_goals go_ret2
    all_goals exact PrsE.mk none 0 (by rw [HL.out, HK.out]; rfl) (by rw [HL.out]; exact Vec.none_ _ _ _) (by repeat (first | exact Ext.refl _ | assumption | refine Ext.alloc ?_ _ | refine Ext.drew ?_ | refine Ext.drewN ?_ _ | refine Ext.trans ?_ (by assumption)))
  by_cases hc4 : n = m
  case neg =>
    have hk : mkE a b am bm = 26 := by rw [mkE, if_pos h, if_neg (by rw [HN.out, HM.out]; exact hc1), h1, h2, Bool.and_true, if_pos rfl, if_neg (by rw [HN.out, HM.out]; exact hc4)]
    clear h
    have hne : ((n : Int) != (m : Int)) = true := by rw [bne_iff_ne]; omega
    have HK := Lib.hid hk
    have HL := Lib.hid (show mkdL a b am bm = [] by rw [mkdL, hk, if_neg (by omega)])
    clear hk
    go_enter Try.func20, Try.ntmps20
    go_wp2_with (first | (go_at_call 31; ((with_reducible refine (edge_any _ _).mono ?_); rintro e w2 ⟨rfl, rfl⟩)) | (first | (go_at_call 36; ((with_reducible refine (rmarksb_any n c A am a _ HX.out hn a0 a1).mono ?_); rintro e w3 ⟨rfl, hq⟩)) | (go_at_call 36; ((with_reducible refine (rmarksb_any m d B bm b _ (Ints.ext HY.out hq) hm b0 b1).mono ?_); rintro e w4 ⟨rfl, hq2⟩))))
    all_goals go_ret2
    all_goals exact PrsE.mk none 0 (by rw [HL.out, HK.out]; rfl) (by rw [HL.out]; exact Vec.none_ _ _ _) (by repeat (first | exact Ext.refl _ | assumption | refine Ext.alloc ?_ _ | refine Ext.drew ?_ | refine Ext.drewN ?_ _ | refine Ext.trans ?_ (by assumption)))
  subst hc4
  have hk : mkE a b am bm = 0 := by rw [mkE, if_pos h, if_neg (by rw [HN.out, HM.out]; exact hc1), h1, h2, Bool.and_true, if_pos rfl, if_pos (by rw [HN.out, HM.out])]
  have HK := Lib.hid hk
  have HL := Lib.hid (show mkdL a b am bm = mkdN a b am bm (n + 1) by rw [mkdL, hk, if_pos rfl, HN.out])
  clear h hk
  go_enter Try.func20, Try.ntmps20
  go_wp2_with (first | (go_at_call 31; ((with_reducible refine (edge_any _ _).mono ?_); rintro e w2 ⟨rfl, rfl⟩)) | (first | (go_at_call 36; ((with_reducible refine (rmarksb_any n c A am a _ HX.out hn a0 a1).mono ?_); rintro e w3 ⟨rfl, hq⟩)) | (go_at_call 36; ((with_reducible refine (rmarksb_any n d B bm b _ (Ints.ext HY.out hq) hm b0 b1).mono ?_); rintro e w4 ⟨rfl, hq2⟩))))
  clear i1 i2
  go_loopw [10, 11, 12, 13] (fun v x y i wr => ∃ k : Nat, k ≤ n + 1 ∧ i = .int .i64 k ∧ Hid (k ≤ n → x = .int .i64 (pm am k) ∧ y = .int .i64 (pm bm k)) ∧ OwnV shPair wr w.heap.size 55 v (mkdN a b am bm k).length (mkdN a b am bm k) ∧ Hid (Ext w wr)) (fun _ _ _ i _ => n + 1 - (intOf i).toNat)
  case atStart => exact ⟨0, by omega, rfl, fun _ => ⟨rfl, rfl⟩, OwnV.nil _ _ _ _, by repeat (first | exact Ext.refl _ | assumption | refine Ext.alloc ?_ _ | refine Ext.drew ?_ | refine Ext.drewN ?_ _ | refine Ext.trans ?_ (by assumption))⟩
  case round =>
    obtain ⟨k, hk, rfl, hxy, hown, hext⟩ := hrel
    have hlen := mkdN_len HK.out k (by rw [HN.out]; omega)
    by_cases hlt : k ≤ n
    · obtain ⟨rfl, rfl⟩ := hxy.out hlt
      clear hxy
      have s1 := sect_bd a0 h1 k (by rw [HN.out]; omega)
      have s2 := sect_bd b0 h2 k (by rw [HM.out]; omega)
      have hS := mkdS_eq a b am bm k
      have hN := mkdN_succ a b am bm k
      have hl := congrArg List.length hN
      rw [List.length_append, hS] at hl
      rw [hS] at hN
      have hs3 : (secL (pm am k) (cm am a k - pm am k) (pm bm k) (cm bm b k - pm bm k)).length ≤ 1000 := by rw [secL_len]; omega
      have hp : ∀ j, j = k + 1 → j ≤ n → pm am j = cm am a k ∧ pm bm j = cm bm b k := fun j e hj => by
        subst e
        rw [pm_succ, pm_succ, cm_lt a (by rw [HN.out]; omega), cm_lt b (by rw [HM.out]; omega)]
        exact ⟨rfl, rfl⟩
      have HP := Lib.hid hp
      have HN1 := Lib.hid hN
      have HL1 := Lib.hid hl
      clear hp hN hl hS
      by_cases hlt2 : k < n
      · obtain ⟨A1, o1, rfl, hb1, hc1⟩ := HX.out.2 (by omega)
        obtain ⟨A2, o2, rfl, hb2, hc2⟩ := HY.out.2 (by omega)
        have hd1 := (Below.cell (p := ⟨A1, o1 + k, none⟩) hext.out hb1).trans (hc1 k hlt2)
        have hd2 := (Below.cell (p := ⟨A2, o2 + k, none⟩) hext.out hb2).trans (hc2 k hlt2)
        rw [← cm_lt a (by rw [HN.out]; exact hlt2)] at hd1
        rw [← cm_lt b (by rw [HM.out]; exact hlt2)] at hd2
        have hi0 : (0 : Int) ≤ (k : Int) := by omega
        have hi1 : (k : Int) < (n : Int) := by omega
        clear hc1 hc2
        generalize cm am a k = u at *
        generalize cm bm b k = v at *
        generalize pm am k = x at *
        generalize pm bm k = y at *
        have H1 := Lib.hid hown
        clear hown
        go_wp2_with fail
        go_quiet (fail)
        clear hd1 hd2
        have hown : OwnV shPair wr w.heap.size 55 _ (mkdN a b am bm k).length (mkdN a b am bm k) := H1.out
        go_wp2_with (first | (go_at_call 33; ((with_reducible refine (even_any x (u - x) y (v - y) _ (by omega) (by omega) (by omega) (by omega) (by omega) (by omega) (by omega) (by omega)).mono ?_); rintro e w5 ⟨A5, c5, rfl, hv5, hq5⟩)) | (at_builtin; refine wpList_append_vecs (S := shPair) (w := w) 40 55 (.agg #[.int .i64 0, .int .i64 0]) 16 (by rfl) (by rfl) Try.underlying40 info_pair (by rfl) (by omega) (by rfl) (by rfl) (OwnV.ext (OwnV.drewN hown _) hq5) (by have := hext.out; repeat (first | exact Ext.refl _ | assumption | refine Ext.alloc ?_ _ | refine Ext.drew ?_ | refine Ext.drewN ?_ _ | refine Ext.trans ?_ (by assumption))) hv5 (by omega) ?_; intro v' w1 hown1 hext1))
        go_roundw
        case rel => exact ⟨k + 1, by omega, by go_num, fun hj => by rw [(HP.out _ rfl hj).1, (HP.out _ rfl hj).2]; exact ⟨rfl, rfl⟩, by rw [HN1.out, List.length_append]; exact hown1, hext1⟩
        case measure => simp [intOf]; omega
      · obtain rfl : k = n := by omega
        have e1 : cm am a k = a := by have := cm_end am a; rwa [HN.out] at this
        have e2 : cm bm b k = b := by have := cm_end bm b; rwa [HM.out] at this
        rw [e1] at s1 hs3 HN1
        rw [e2] at s2 hs3 HN1
        clear e1 e2 HL1 HP
        generalize pm am k = x at *
        generalize pm bm k = y at *
        have HQ := Lib.hid hext.out
        go_wp2_with (first | (go_at_call 33; ((with_reducible refine (even_any x (a - x) y (b - y) _ (by omega) (by omega) (by omega) (by omega) (by omega) (by omega) (by omega) (by omega)).mono ?_); rintro e w5 ⟨A5, c5, rfl, hv5, hq5⟩)) | (at_builtin; refine wpList_append_vecs (S := shPair) (w := w) 40 55 (.agg #[.int .i64 0, .int .i64 0]) 16 (by rfl) (by rfl) Try.underlying40 info_pair (by rfl) (by omega) (by rfl) (by rfl) (OwnV.ext hown hq5) (by have := hext.out; repeat (first | exact Ext.refl _ | assumption | refine Ext.alloc ?_ _ | refine Ext.drew ?_ | refine Ext.drewN ?_ _ | refine Ext.trans ?_ (by assumption))) hv5 (by omega) ?_; intro v' w1 hown1 hext1))
        go_roundw
        case rel => exact ⟨k + 1, by omega, by go_num, fun hj => absurd hj (by omega), by rw [HN1.out, List.length_append]; exact hown1, hext1⟩
        case measure => simp [intOf] <;> omega
    · obtain rfl : k = n + 1 := by omega
      obtain ⟨A', c', rfl, hv⟩ := own_vec hown
      go_wp2
      go_ret2
      refine PrsE.mk A' c' ?_ ?_ hext.out
      · rw [HL.out, HK.out]; rfl
      · rw [HL.out]; exact hv

/-- two numbers are equal, one after the other, or neither -/
theorem tri (q p : Int) : ((q == p) = true ∧ (q == p + 1) = false ∧ (q != p) = false) ∨ ((q == p) = false ∧ (q == p + 1) = true ∧ (q != p) = true) ∨ ((q == p) = false ∧ (q == p + 1) = false ∧ (q != p) = true ∧ ¬ (p ≤ q ∧ q ≤ p + 1)) := by
  rcases Int.lt_trichotomy q p with h | h | h
  · exact .inr (.inr ⟨by rw [beq_eq_false_iff_ne]; omega, by rw [beq_eq_false_iff_ne]; omega, by rw [bne_iff_ne]; omega, by omega⟩)
  · exact .inl ⟨by simp [h], by rw [beq_eq_false_iff_ne]; omega, by simp [h]⟩
  · by_cases e : q = p + 1
    · exact .inr (.inl ⟨by rw [beq_eq_false_iff_ne]; omega, by simp [e], by rw [bne_iff_ne]; omega⟩)
    · exact .inr (.inr ⟨by rw [beq_eq_false_iff_ne]; omega, by rw [beq_eq_false_iff_ne]; omega, by rw [bne_iff_ne]; omega, by omega⟩)

set_option maxRecDepth 100000 in
set_option maxHeartbeats 4000000 in
theorem rcheck39_any (n c : Nat) (A : Option Addr) (l : List (Int × Int)) (a b : Int) (w : World) (hl : Vec shPair w A n l) (hm : n ≤ maxLen) :
    Calls Try.prog 25 #[.slice A n c, .int .i64 a, .int .i64 b] w fun e w' => e = .returned (.int .i64 (chkE l a b)) ∧ Ext w w' := by
  have HX := Lib.hid hl
  clear hl
  have hm2 : (n : Int) ≤ 9223372036854775807 := by unfold maxLen at hm; omega
  clear hm
  cases h : edOk a b
  · have HK := Lib.hid (show chkE l a b = 2 by simp [chkE, h])
    rw [edOk, Bool.and_eq_false_iff] at h
    have h' : inR a 1 1000 = false ∨ (inR a 1 1000 = true ∧ inR b 1 1000 = false) := by
      cases e : inR a 1 1000
      · exact .inl rfl
      · rw [e] at h; simp at h; exact .inr ⟨rfl, h⟩
    clear h
    rcases h' with h1 | ⟨h1, h2⟩
    all_goals
      go_enter Try.func25, Try.ntmps25
      go_wp2_with (go_at_call 31; ((with_reducible refine (edge_any _ _).mono ?_); rintro e w2 ⟨rfl, rfl⟩))
      go_ret
      exact ⟨by rw [HK.out]; rfl, by repeat (first | exact Ext.refl _ | assumption | refine Ext.alloc ?_ _ | refine Ext.drew ?_ | refine Ext.drewN ?_ _ | refine Ext.trans ?_ (by assumption))⟩
  obtain ⟨a0, a1, b0, b1⟩ := edOk_e h
  have HK := Lib.hid (show chkE l a b = if seamB l a b then 0 else 30 by simp [chkE, h])
  have i1 := inR_t a0 a1
  have i2 := inR_t b0 b1
  clear h
  go_enter Try.func25, Try.ntmps25
  go_wp2_with (go_at_call 31; ((with_reducible refine (edge_any _ _).mono ?_); rintro e w2 ⟨rfl, rfl⟩))
  clear i1 i2
  go_loopw [7, 8, 9] (fun x y i wr => ∃ k : Nat, k ≤ n ∧ i = .int .i64 k ∧ x = .int .i64 (((0, 0) :: l).getD k (0, 0)).1 ∧ y = .int .i64 (((0, 0) :: l).getD k (0, 0)).2 ∧ Hid ((0 < k → l.getD 0 (0, 0) = (0, 0)) ∧ ∀ j, 1 ≤ j → j < k → stepAt l j = true) ∧ Hid (Ext w wr)) (fun _ _ i _ => n - (intOf i).toNat)
  case atStart => exact ⟨0, by omega, rfl, rfl, rfl, ⟨fun h => absurd h (by omega), fun j h1 h2 => absurd h2 (by omega)⟩, Ext.refl _⟩
  case round =>
    obtain ⟨k, hk, rfl, rfl, rfl, hall, hext⟩ := hrel
    have := hext.out
    by_cases hlt : k < n
    · obtain ⟨A1, o1, rfl, hb1, h1, h2⟩ := Prs.at_ (HX.out.ext hext.out) hlt
      have hln := HX.out.1
      have hsucc : (((0, 0) :: l).getD (k + 1) (0, 0)) = l.getD k (0, 0) := by simp
      have HSC := Lib.hid hsucc
      clear hsucc
      have hz1 := World.block_lt_of_cell? wr _ h1
      cases k with
      | zero =>
        rw [Nat.zero_mul, Nat.add_zero] at h1 h2
        rw [show (((0, 0) :: l).getD 0 (0, 0)) = ((0, 0) : Int × Int) from rfl]
        by_cases hp : l.getD 0 (0, 0) = (0, 0)
        · have HA := Lib.hid (show (0 < 0 + 1 → l.getD 0 (0, 0) = (0, 0)) ∧ ∀ j, 1 ≤ j → j < 0 + 1 → stepAt l j = true from ⟨fun _ => hp, fun j h1 h2 => absurd h2 (by omega)⟩)
          rw [hp] at h1 h2 HSC
          clear hp hall hext hln
          go_wp2_with fail
          go_quiet (fail)
          go_wp2
          go_roundw
          case rel => exact ⟨0 + 1, by omega, by go_num, by rw [HSC.out], by rw [HSC.out], HA, by repeat (first | exact Ext.refl _ | assumption | refine Ext.alloc ?_ _ | refine Ext.drew ?_ | refine Ext.drewN ?_ _ | refine Ext.trans ?_ (by assumption))⟩
          case measure => simp [intOf]; omega
        · have HS := Lib.hid (show seamB l a b = false by simp only [seamB, decide_eq_false hp, Bool.and_false, Bool.false_and])
          clear hall hext hln HSC
          generalize l.getD 0 (0, 0) = q at *
          obtain ⟨qx, qy⟩ := q
          simp only at h1 h2
          have hp' : qx ≠ 0 ∨ (qx = 0 ∧ qy ≠ 0) := by
            by_cases e : qx = 0
            · exact .inr ⟨e, fun e2 => hp (by rw [e, e2])⟩
            · exact .inl e
          clear hp
          rcases hp' with e | ⟨rfl, e⟩
          all_goals have e1 := beq_eq_false_iff_ne.2 e
          all_goals clear e
          all_goals go_wp2
          all_goals (go_ret; exact ⟨by rw [HK.out, HS.out]; rfl, by repeat (first | exact Ext.refl _ | assumption | refine Ext.alloc ?_ _ | refine Ext.drew ?_ | refine Ext.drewN ?_ _ | refine Ext.trans ?_ (by assumption))⟩)
      | succ k =>
        have hcons : ((0, 0) :: l).getD (k + 1) (0, 0) = l.getD k (0, 0) := by simp
        rw [hcons]
        clear hcons
        have hst : stepAt l (k + 1) = stepB (l.getD k (0, 0)) (l.getD (k + 1) (0, 0)) := rfl
        have hu := seam_up (hall.out.1 (by omega)) hall.out.2 k (by omega)
        have hin : seamB l a b = true → (l.getD (k + 1) (0, 0)).1 < a ∧ (l.getD (k + 1) (0, 0)).2 < b := fun h => by
          have := seam_in h (k + 1) (by omega)
          exact ⟨this.2.1, this.2.2.2⟩
        have hno : stepAt l (k + 1) = false → seamB l a b = false := fun h => seamB_no (by omega) (by omega) h
        have hyes : stepAt l (k + 1) = true → (0 < k + 1 + 1 → l.getD 0 (0, 0) = (0, 0)) ∧ ∀ j, 1 ≤ j → j < k + 1 + 1 → stepAt l j = true := fun h => ⟨fun _ => hall.out.1 (by omega), fun j h1 h2 => by
          rcases Nat.lt_or_ge j (k + 1) with e | e
          · exact hall.out.2 j h1 e
          · obtain rfl : j = k + 1 := by omega
            exact h⟩
        rw [hst] at hno hyes
        have HYES := Lib.hid hyes
        clear hst hall hext hln hyes
        generalize l.getD k (0, 0) = p at *
        generalize l.getD (k + 1) (0, 0) = q at *
        obtain ⟨px, py⟩ := p
        obtain ⟨qx, qy⟩ := q
        obtain ⟨u0, u1, u2, u3⟩ := hu
        simp only at h1 h2 u0 u1 u2 u3 hin
        by_cases hb1 : qx < a ∧ qy < b
        case neg =>
          have HS := Lib.hid (show seamB l a b = false by
            cases e : seamB l a b
            · rfl
            · exact absurd (hin e) hb1)
          clear hno hin HYES HSC
          have hb2 : a ≤ qx ∨ (qx < a ∧ b ≤ qy) := by omega
          clear hb1
          rcases hb2 with hb2 | ⟨hb2, hb3⟩
          all_goals go_wp2
          all_goals (go_ret; exact ⟨by rw [HK.out, HS.out]; rfl, by repeat (first | exact Ext.refl _ | assumption | refine Ext.alloc ?_ _ | refine Ext.drew ?_ | refine Ext.drewN ?_ _ | refine Ext.trans ?_ (by assumption))⟩)
        obtain ⟨hb2, hb3⟩ := hb1
        clear hin
        have HNO := Lib.hid hno
        clear hno
        have BAD : ¬ (px ≤ qx ∧ qx ≤ px + 1 ∧ py ≤ qy ∧ qy ≤ py + 1 ∧ (px < qx ∨ py < qy)) → seamB l a b = false := fun h => HNO.out (by
          cases e : stepB (px, py) (qx, qy)
          · rfl
          · exact absurd (step_e e) h)
        have GOOD : (px ≤ qx ∧ qx ≤ px + 1 ∧ py ≤ qy ∧ qy ≤ py + 1 ∧ (px < qx ∨ py < qy)) → (0 < k + 1 + 1 → l.getD 0 (0, 0) = (0, 0)) ∧ ∀ j, 1 ≤ j → j < k + 1 + 1 → stepAt l j = true := fun h => HYES.out (step_i h)
        have HBAD := Lib.hid BAD
        have HGOOD := Lib.hid GOOD
        clear BAD GOOD HYES HNO
        rcases tri qx px with ⟨x1, x2, x3⟩ | ⟨x1, x2, x3⟩ | ⟨x1, x2, x3, x4⟩
        · rcases tri qy py with ⟨y1, y2, y3⟩ | ⟨y1, y2, y3⟩ | ⟨y1, y2, y3, y4⟩
          · have HS := Lib.hid (HBAD.out (by simp at x1 x2 x3 y1 y2 y3; omega))
            clear HGOOD HBAD HSC
            go_wp2
            all_goals (go_ret; exact ⟨by rw [HK.out, HS.out]; rfl, by repeat (first | exact Ext.refl _ | assumption | refine Ext.alloc ?_ _ | refine Ext.drew ?_ | refine Ext.drewN ?_ _ | refine Ext.trans ?_ (by assumption))⟩)
          · have HA := Lib.hid (HGOOD.out (by simp at x1 x2 x3 y1 y2 y3; omega))
            clear HGOOD HBAD
            go_wp2_with fail
            go_quiet (fail)
            go_wp2
            go_roundw
            case rel => exact ⟨k + 1 + 1, by omega, by go_num, by rw [HSC.out], by rw [HSC.out], HA, by repeat (first | exact Ext.refl _ | assumption | refine Ext.alloc ?_ _ | refine Ext.drew ?_ | refine Ext.drewN ?_ _ | refine Ext.trans ?_ (by assumption))⟩
            case measure => simp [intOf]; omega
          · have HS := Lib.hid (HBAD.out (by simp at x1 x2 x3 y1 y2 y3; omega))
            clear HGOOD HBAD HSC y4
            go_wp2
            all_goals (go_ret; exact ⟨by rw [HK.out, HS.out]; rfl, by repeat (first | exact Ext.refl _ | assumption | refine Ext.alloc ?_ _ | refine Ext.drew ?_ | refine Ext.drewN ?_ _ | refine Ext.trans ?_ (by assumption))⟩)
        · rcases tri qy py with ⟨y1, y2, y3⟩ | ⟨y1, y2, y3⟩ | ⟨y1, y2, y3, y4⟩
          · have HA := Lib.hid (HGOOD.out (by simp at x1 x2 x3 y1 y2 y3; omega))
            clear HGOOD HBAD
            go_wp2_with fail
            go_quiet (fail)
            go_wp2
            go_roundw
            case rel => exact ⟨k + 1 + 1, by omega, by go_num, by rw [HSC.out], by rw [HSC.out], HA, by repeat (first | exact Ext.refl _ | assumption | refine Ext.alloc ?_ _ | refine Ext.drew ?_ | refine Ext.drewN ?_ _ | refine Ext.trans ?_ (by assumption))⟩
            case measure => simp [intOf]; omega
          · have HA := Lib.hid (HGOOD.out (by simp at x1 x2 x3 y1 y2 y3; omega))
            clear HGOOD HBAD
            go_wp2_with fail
            go_quiet (fail)
            go_wp2
            go_roundw
            case rel => exact ⟨k + 1 + 1, by omega, by go_num, by rw [HSC.out], by rw [HSC.out], HA, by repeat (first | exact Ext.refl _ | assumption | refine Ext.alloc ?_ _ | refine Ext.drew ?_ | refine Ext.drewN ?_ _ | refine Ext.trans ?_ (by assumption))⟩
            case measure => simp [intOf]; omega
          · have HS := Lib.hid (HBAD.out (by simp at x1 x2 x3 y1 y2 y3; omega))
            clear HGOOD HBAD HSC y4
            go_wp2
            all_goals (go_ret; exact ⟨by rw [HK.out, HS.out]; rfl, by repeat (first | exact Ext.refl _ | assumption | refine Ext.alloc ?_ _ | refine Ext.drew ?_ | refine Ext.drewN ?_ _ | refine Ext.trans ?_ (by assumption))⟩)
        · rcases tri qy py with ⟨y1, y2, y3⟩ | ⟨y1, y2, y3⟩ | ⟨y1, y2, y3, y4⟩
          · have HS := Lib.hid (HBAD.out (by simp at x1 x2 x3 y1 y2 y3; omega))
            clear HGOOD HBAD HSC x4
            go_wp2
            all_goals (go_ret; exact ⟨by rw [HK.out, HS.out]; rfl, by repeat (first | exact Ext.refl _ | assumption | refine Ext.alloc ?_ _ | refine Ext.drew ?_ | refine Ext.drewN ?_ _ | refine Ext.trans ?_ (by assumption))⟩)
          · have HS := Lib.hid (HBAD.out (by simp at x1 x2 x3 y1 y2 y3; omega))
            clear HGOOD HBAD HSC x4
            go_wp2
            all_goals (go_ret; exact ⟨by rw [HK.out, HS.out]; rfl, by repeat (first | exact Ext.refl _ | assumption | refine Ext.alloc ?_ _ | refine Ext.drew ?_ | refine Ext.drewN ?_ _ | refine Ext.trans ?_ (by assumption))⟩)
          · have HS := Lib.hid (HBAD.out (by simp at x1 x2 x3 y1 y2 y3; omega))
            clear HGOOD HBAD HSC x4 y4
            go_wp2
            all_goals (go_ret; exact ⟨by rw [HK.out, HS.out]; rfl, by repeat (first | exact Ext.refl _ | assumption | refine Ext.alloc ?_ _ | refine Ext.drew ?_ | refine Ext.drewN ?_ _ | refine Ext.trans ?_ (by assumption))⟩)
    · obtain rfl : k = n := by omega
      have hln := HX.out.1
      cases k with
      | zero =>
        have HS := Lib.hid (show seamB l a b = false by simp [seamB, hln])
        clear hln hall
        go_wp2
        all_goals (go_ret; exact ⟨by rw [HK.out, HS.out]; rfl, by repeat (first | exact Ext.refl _ | assumption | refine Ext.alloc ?_ _ | refine Ext.drew ?_ | refine Ext.drewN ?_ _ | refine Ext.trans ?_ (by assumption))⟩)
      | succ k =>
        have hcons : ((0, 0) :: l).getD (k + 1) (0, 0) = l.getD k (0, 0) := by simp
        rw [hcons]
        clear hcons
        have hne : (((k : Int) + 1) == 0) = false := by rw [beq_eq_false_iff_ne]; omega
        by_cases hz : l.getD k (0, 0) = (a - 1, b - 1)
        · have HS := Lib.hid (show seamB l a b = true from seamB_i hln (by omega) (hall.out.1 (by omega)) (by rw [show k + 1 - 1 = k by omega]; exact hz) hall.out.2)
          rw [hz]
          clear hln hall hz
          go_wp2
          go_ret
          exact ⟨by rw [HK.out, HS.out]; rfl, by repeat (first | exact Ext.refl _ | assumption | refine Ext.alloc ?_ _ | refine Ext.drew ?_ | refine Ext.drewN ?_ _ | refine Ext.trans ?_ (by assumption))⟩
        · have HS := Lib.hid (show seamB l a b = false by
            have : ¬ l.getD (l.length - 1) (0, 0) = (a - 1, b - 1) := by rw [hln]; exact hz
            simp only [seamB, decide_eq_false this, Bool.and_false, Bool.false_and])
          clear hln hall
          generalize l.getD k (0, 0) = q at *
          obtain ⟨qx, qy⟩ := q
          have hp' : qx ≠ a - 1 ∨ (qx = a - 1 ∧ qy ≠ b - 1) := by
            by_cases e : qx = a - 1
            · exact .inr ⟨e, fun e2 => hz (by rw [e, e2])⟩
            · exact .inl e
          clear hz
          rcases hp' with e | ⟨rfl, e⟩
          all_goals have e1 := bne_iff_ne.2 e
          all_goals clear e
          all_goals go_wp2
          all_goals (go_ret; exact ⟨by rw [HK.out, HS.out]; rfl, by repeat (first | exact Ext.refl _ | assumption | refine Ext.alloc ?_ _ | refine Ext.drew ?_ | refine Ext.drewN ?_ _ | refine Ext.trans ?_ (by assumption))⟩)
end Go.Proofs.Ytepegahgiciegaa
