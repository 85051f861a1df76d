/- The reference's Written: the text of a list of stitches. -/
import Derived.Test.YtfbfkoeaihknoaaGreatDoorG29
import Derived.Test.YtfbfkoeaihknoaaGreatDoorG13
import Derived.Test.YtfbfkoeaihknoaaGreatDoorG20
import Derived.Test.YtfbfkoeaihknoaaGreatDoorG06
import Derived.Test.YtfbfkoeaihknoaaGreatDoorG08
import Derived.Test.YtfbfkoeaihknoaaGreatDoorG22
namespace Go.Proofs.YtfbfkoeaihknoaaGreatDoor
set_option maxRecDepth 100000
set_option maxRecDepth 100000
open Go.RowKit
theorem join_snoc (c : UInt8) (ws : List (List UInt8)) (x : List UInt8) : joinB c (ws ++ [x]) = if ws = [] then x else joinB c ws ++ [c] ++ x := by
  induction ws with
  | nil => rfl
  | cons y ws ih =>
    rw [if_neg (by simp)]
    cases ws with
    | nil => simp [joinB]
    | cons z ws =>
      rw [if_neg (by simp)] at ih
      rw [List.cons_append, List.cons_append, joinB]
      rw [List.cons_append] at ih
      rw [ih]
      simp [joinB]
set_option maxHeartbeats 8000000 in
theorem written_any (n c : Nat) (A : Option Addr) (l : List St) (w : World) (hl : Vec shSt w A n l) (hn : n ≤ 200) (ho : allB l = true) :
    Calls Tryz.prog 51 #[.slice A n c] w fun e w' => e = .returned (.string ⟨(textL l).toArray⟩) ∧ Ext w w' := by
  have HX := Lib.hid hl
  have HO := Lib.hid ho
  have HL := Lib.hid hl.1
  clear hl ho
  go_enter Tryz.func51, Tryz.ntmps51
  go_wp2_with fail
  go_loopw [3, 4] (fun u i wr => ∃ (S : List UInt8) (k : Nat) (ws : List (List UInt8)), u = .string ⟨S.toArray⟩ ∧ i = .int .i64 k ∧ k ≤ n ∧ S.length ≤ 200 * k ∧ Hid (S = joinB 32 ws) ∧ Hid (k = 0 ↔ ws = []) ∧ Hid (Ext w wr) ∧ Hid (ws ++ (grp (l.drop k)).map wordG = (grp l).map wordG)) (fun _ i _ => n - (intOf i).toNat)
  case atStart => exact ⟨[], 0, [], rfl, rfl, Nat.zero_le _, Nat.zero_le _, Lib.hid rfl, Lib.hid (by simp), Lib.hid (Ext.refl _), Lib.hid (by simp)⟩
  case round =>
    obtain ⟨S, k, ws, rfl, rfl, hk, hsl, HS, HW, HE, HT⟩ := hrel
    by_cases hlt : k < n
    · obtain ⟨b, off, rfl, hb1, hc⟩ := Sts.all (Vec.ext HX.out HE.out) (by omega)
      have HC := Lib.hid hc
      obtain ⟨c1, c2, c3, c4⟩ := hc k hlt
      have hok := allB_at HO.out (k := k) (by rw [HL.out]; omega)
      obtain ⟨s, hs⟩ : ∃ s, l.getD k st0 = s := ⟨_, rfl⟩
      rw [hs] at c1 c2 c3 c4 hok
      have HS0 := Lib.hid hs
      clear hs hc
      obtain ⟨sk, sp, sa, sb⟩ := s
      simp only at c1 c2 c3 c4
      have q0 : (0 : Int) ≤ (k : Int) := by omega
      have q1 : (k : Int) < (n : Int) := by omega
      obtain ⟨T, hT⟩ : ∃ T, wordT ⟨sk, sp, sa, sb⟩ = T := ⟨_, rfl⟩
      have HWC := Lib.hid (show ∀ w', Calls Tryz.prog 65 #[.agg #[.int .u8 sk, .bool sp, .int .i64 sa, .int .i64 sb]] w' fun e w'' => e = .returned (.string ⟨T.toArray⟩) ∧ Ext w' w'' from fun w' => by
        have h9 := one_any ⟨sk, sp, sa, sb⟩ hok w'
        rw [hT] at h9
        exact h9)
      have tl : T.length ≤ 100 := by
        have h9 := wordG_len (x := (⟨sk, sp, sa, sb⟩, 1)) hok
        rw [← hT]
        simpa [wordG] using h9
      have HTG1 := Lib.hid (show wordG (⟨sk, sp, sa, sb⟩, 1) = T by rw [← hT]; simp [wordG])
      have HTT := Lib.hid hT
      clear hT
      by_cases hk0 : k = 0
      · have hws : ws = [] := HW.out.1 hk0
        subst hk0
        simp only [Nat.zero_mul, Nat.add_zero] at c1 c2 c3 c4
        obtain ⟨G, hG⟩ : ∃ G, S ++ T = G := ⟨_, rfl⟩
        have hcat : (⟨S.toArray⟩ ++ ⟨T.toArray⟩ : ByteArray) = ⟨G.toArray⟩ := by rw [← hG]; exact str_app S T
        have HJ := Lib.hid (show ∀ x, joinB 32 (ws ++ [T ++ x]) = G ++ x from fun x => by rw [join_snoc, if_pos hws, ← hG, HS.out, hws]; rfl)
        have hgl : G.length ≤ 200 * 0 + 101 := by rw [← hG, List.length_append]; omega
        clear hG hws
        go_wp2_with (go_at_call 65; go_loud (((with_reducible refine (HWC.out _).mono ?_); rintro e w2 ⟨rfl, hq2⟩; have HE2 := Lib.hid hq2; clear hq2)))
        have HEW := Lib.hid (HE.out.trans HE2.out)
        go_loopw [4, 5] (fun i q wi => ∃ (j m : Nat), i = .int .i64 j ∧ q = .int .i64 m ∧ 1 ≤ m ∧ j + 1 = 0 + m ∧ 0 + m ≤ n ∧ Hid (m = 1 ∨ sk = 1) ∧ Hid (∀ t, t < m → l.getD (0 + t) st0 = ⟨sk, sp, sa, sb⟩) ∧ wi.heap = w2.heap ∧ Hid (Ext w2 wi)) (fun _ q _ => n - 0 - (intOf q).toNat)
        case atStart => exact ⟨0, 1, rfl, rfl, Nat.le_refl _, rfl, by omega, Lib.hid (.inl rfl), Lib.hid (fun t ht => (by obtain rfl : t = 0 := (by omega); exact HS0.out)), rfl, Lib.hid (Ext.refl _)⟩
        case round =>
          obtain ⟨j, m, rfl, rfl, hm1, hjm, hm2, hm3, HA, hheap, HE3⟩ := hrel
          have HE4 := Lib.hid (HE2.out.trans HE3.out)
          have HE5 := Lib.hid (HEW.out.trans HE3.out)
          have hx : l.getD j st0 = ⟨sk, sp, sa, sb⟩ := by
            have h9 := HA.out (m - 1) (by omega)
            rw [show 0 + (m - 1) = j by omega] at h9
            exact h9
          obtain ⟨d1, d2, d3, d4⟩ := HC.out j (by omega)
          rw [hx] at d1 d2 d3 d4
          clear hx
          simp only at d1 d2 d3 d4
          replace d1 := (Below.cell (p := ⟨b, _, none⟩) HE4.out hb1).trans d1
          replace d2 := (Below.cell (p := ⟨b, _, none⟩) HE4.out hb1).trans d2
          replace d3 := (Below.cell (p := ⟨b, _, none⟩) HE4.out hb1).trans d3
          replace d4 := (Below.cell (p := ⟨b, _, none⟩) HE4.out hb1).trans d4
          have p0 : (0 : Int) ≤ (j : Int) := by omega
          have p1 : (j : Int) < (n : Int) := by omega
          obtain ⟨j2, hj2⟩ : ∃ j2, j2 = j + 1 := ⟨_, rfl⟩
          have i1 : IntKind.i64.wrap ((j : Int) + 1) = (j2 : Int) := by rw [IntWalk.i64_in ((j : Int) + 1) ⟨by omega, by omega⟩]; omega
          rw [← hj2] at hjm
          have HJ2 := Lib.hid hj2
          have HJM := Lib.hid hjm
          clear hj2 hjm
          have i2 := IntWalk.i64_in ((m : Int) + 1) ⟨by omega, by omega⟩
          by_cases hk1 : sk = 1
          · by_cases hkm : j2 < n
            · obtain ⟨e1, e2, e3, e4⟩ := HC.out j2 hkm
              replace e1 := (Below.cell (p := ⟨b, _, none⟩) HE4.out hb1).trans e1
              replace e2 := (Below.cell (p := ⟨b, _, none⟩) HE4.out hb1).trans e2
              replace e3 := (Below.cell (p := ⟨b, _, none⟩) HE4.out hb1).trans e3
              replace e4 := (Below.cell (p := ⟨b, _, none⟩) HE4.out hb1).trans e4
              have q2 : (0 : Int) ≤ (j2 : Int) := by omega
              have q3 : (j2 : Int) < (n : Int) := by omega
              by_cases hxy : l.getD j2 st0 = ⟨sk, sp, sa, sb⟩
              · rw [hxy] at e1 e2 e3 e4
                simp only at e1 e2 e3 e4
                have HA2 := Lib.hid (show ∀ t, t < m + 1 → l.getD (0 + t) st0 = ⟨sk, sp, sa, sb⟩ from fun t ht => by
                  by_cases e : t = m
                  · subst e; rw [← HJM.out]; exact hxy
                  · exact HA.out t (by omega))
                clear hxy
                subst hk1
                go_wp2_with fail
                go_quiet (fail)
                go_wp2
                go_roundw
                case rel => exact ⟨j2, m + 1, by go_num, by go_num, by omega, by have := HJM.out; omega, by have := HJM.out; omega, Lib.hid (by first | exact .inr rfl | exact .inr trivial), HA2, hheap, Lib.hid (Ext.drewN HE3.out _)⟩
                case measure => have hjm := HJM.out; simp [intOf] <;> omega
              · generalize hy : l.getD j2 st0 = y at *
                obtain ⟨y1, y2, y3, y4⟩ := y
                simp only at e1 e2 e3 e4
                have hne := run_st_eq (fun e => hxy e)
                have HNE := Lib.hid hxy
                clear hxy
                subst hk1
                have HQ := Lib.hid (show grp (l.drop 0) = (⟨1, sp, sa, sb⟩, m) :: grp (l.drop (0 + m)) by
                  have h9 := grp_run m (l.drop 0) ⟨1, sp, sa, sb⟩ hm1 (by rw [List.length_drop, HL.out]; omega) (fun t ht => by rw [← HA.out t ht]; simp [List.getD_eq_getElem?_getD]) (.inr rfl) (.inr (.inr (by have h8 : (l.drop 0).getD m st0 = ⟨y1, y2, y3, y4⟩ := (by rw [← hy, HJM.out]; simp [List.getD_eq_getElem?_getD]); rw [h8]; exact HNE.out)))
                  rw [h9, List.drop_drop])
                by_cases hm : m = 1
                · subst hm
                  have HF := Lib.hid (show (ws ++ [T]) ++ (grp (l.drop (0 + 1))).map wordG = (grp l).map wordG by
                    rw [← HT.out, HQ.out, ← HTG1.out]
                    simp)
                  have HJK := Lib.hid (show j2 = 0 + 1 by have := HJM.out; omega)
                  go_wp2_with fail
                  go_quiet (fail)
                  go_wp2_with fail
                  go_roundw
                  case rel => exact ⟨G, 0 + 1, ws ++ [T], rfl, by have := HJK.out; subst this; go_num, by omega, by omega, Lib.hid (by have := HJ.out []; rw [List.append_nil, List.append_nil] at this; exact this.symm), Lib.hid (by simp), Lib.hid (Ext.drewN HE5.out _), HF⟩
                  case measure => have hjm := HJM.out; simp [intOf] <;> omega
                · have hm9 : (1 : Int) < (m : Int) := by omega
                  obtain ⟨D, hD⟩ : ∃ D, decD m = D := ⟨_, rfl⟩
                  obtain ⟨G2, hG2⟩ : ∃ G2, G ++ D = G2 := ⟨_, rfl⟩
                  have HIC := Lib.hid (show ∀ w', Calls Tryz.prog 52 #[.int .i64 (m : Int)] w' fun e w'' => e = .returned (.string ⟨D.toArray⟩) ∧ Ext w' w'' from fun w' => by
                    have h9 := decimal_any m (by omega) w'
                    rw [hD] at h9
                    exact h9)
                  have hcat9 : (⟨G.toArray⟩ ++ ⟨D.toArray⟩ : ByteArray) = ⟨G2.toArray⟩ := by rw [← hG2]; exact str_app G D
                  have hTG : wordG (⟨1, sp, sa, sb⟩, m) = T ++ D := by rw [wordG, if_pos (by simp only; omega), HTT.out, hD]
                  have HTG := Lib.hid hTG
                  have dl : D.length ≤ 20 := by rw [← hD]; exact dec_len m
                  have g2l : G2.length ≤ 200 * 0 + 121 := by rw [← hG2, List.length_append]; omega
                  have HG2 := Lib.hid hG2
                  clear hD hG2 hTG
                  have HF := Lib.hid (show (ws ++ [T ++ D]) ++ (grp (l.drop (0 + m))).map wordG = (grp l).map wordG by
                    rw [← HT.out, HQ.out, List.map_cons, HTG.out]
                    simp)
                  go_wp2_with fail
                  go_quiet (fail)
                  go_wp2_with (go_at_call 52; go_loud (((with_reducible refine (HIC.out _).mono ?_); rintro e w7 ⟨rfl, hq7⟩; have HE7 := Lib.hid (HE5.out.trans (Ext.trans (by repeat (first | exact Ext.refl _ | refine Ext.drew ?_ | refine Ext.drewN ?_ _ | refine Ext.alloc ?_ _)) hq7)); clear hq7)))
                  go_roundw
                  case rel => exact ⟨G2, 0 + m, ws ++ [T ++ D], rfl, by rw [← HJM.out], by omega, by omega, Lib.hid (by rw [← HG2.out]; exact (HJ.out D).symm), Lib.hid (by simp <;> omega), HE7, HF⟩
                  case measure => have hjm := HJM.out; simp [intOf] <;> omega
            · have hkm2 : ¬ ((j2 : Int) < (n : Int)) := by omega
              subst hk1
              have HQ := Lib.hid (show grp (l.drop 0) = (⟨1, sp, sa, sb⟩, m) :: grp (l.drop (0 + m)) by
                have h9 := grp_run m (l.drop 0) ⟨1, sp, sa, sb⟩ hm1 (by rw [List.length_drop, HL.out]; omega) (fun t ht => by rw [← HA.out t ht]; simp [List.getD_eq_getElem?_getD]) (.inr rfl) (.inr (.inl (by have := HJM.out; rw [List.length_drop, HL.out]; omega)))
                rw [h9, List.drop_drop])
              by_cases hm : m = 1
              · subst hm
                have HF := Lib.hid (show (ws ++ [T]) ++ (grp (l.drop (0 + 1))).map wordG = (grp l).map wordG by
                  rw [← HT.out, HQ.out, ← HTG1.out]
                  simp)
                have HJK := Lib.hid (show j2 = 0 + 1 by have := HJM.out; omega)
                go_wp2_with fail
                go_quiet (fail)
                go_wp2_with fail
                go_roundw
                case rel => exact ⟨G, 0 + 1, ws ++ [T], rfl, by have := HJK.out; subst this; go_num, by omega, by omega, Lib.hid (by have := HJ.out []; rw [List.append_nil, List.append_nil] at this; exact this.symm), Lib.hid (by simp), Lib.hid (Ext.drewN HE5.out _), HF⟩
                case measure => have hjm := HJM.out; simp [intOf] <;> omega
              · have hm9 : (1 : Int) < (m : Int) := by omega
                obtain ⟨D, hD⟩ : ∃ D, decD m = D := ⟨_, rfl⟩
                obtain ⟨G2, hG2⟩ : ∃ G2, G ++ D = G2 := ⟨_, rfl⟩
                have HIC := Lib.hid (show ∀ w', Calls Tryz.prog 52 #[.int .i64 (m : Int)] w' fun e w'' => e = .returned (.string ⟨D.toArray⟩) ∧ Ext w' w'' from fun w' => by
                  have h9 := decimal_any m (by omega) w'
                  rw [hD] at h9
                  exact h9)
                have hcat9 : (⟨G.toArray⟩ ++ ⟨D.toArray⟩ : ByteArray) = ⟨G2.toArray⟩ := by rw [← hG2]; exact str_app G D
                have hTG : wordG (⟨1, sp, sa, sb⟩, m) = T ++ D := by rw [wordG, if_pos (by simp only; omega), HTT.out, hD]
                have HTG := Lib.hid hTG
                have dl : D.length ≤ 20 := by rw [← hD]; exact dec_len m
                have g2l : G2.length ≤ 200 * 0 + 121 := by rw [← hG2, List.length_append]; omega
                have HG2 := Lib.hid hG2
                clear hD hG2 hTG
                have HF := Lib.hid (show (ws ++ [T ++ D]) ++ (grp (l.drop (0 + m))).map wordG = (grp l).map wordG by
                  rw [← HT.out, HQ.out, List.map_cons, HTG.out]
                  simp)
                go_wp2_with fail
                go_quiet (fail)
                go_wp2_with (go_at_call 52; go_loud (((with_reducible refine (HIC.out _).mono ?_); rintro e w7 ⟨rfl, hq7⟩; have HE7 := Lib.hid (HE5.out.trans (Ext.trans (by repeat (first | exact Ext.refl _ | refine Ext.drew ?_ | refine Ext.drewN ?_ _ | refine Ext.alloc ?_ _)) hq7)); clear hq7)))
                go_roundw
                case rel => exact ⟨G2, 0 + m, ws ++ [T ++ D], rfl, by rw [← HJM.out], by omega, by omega, Lib.hid (by rw [← HG2.out]; exact (HJ.out D).symm), Lib.hid (by simp <;> omega), HE7, HF⟩
                case measure => have hjm := HJM.out; simp [intOf] <;> omega
          · have hk2 : (sk == 1) = false := by simpa using hk1
            have HK := Lib.hid hk1
            obtain rfl : m = 1 := by rcases hm3.out with h | h
                                     · exact h
                                     · exact absurd h hk1
            clear hk1
            have HQ := Lib.hid (show grp (l.drop 0) = (⟨sk, sp, sa, sb⟩, 1) :: grp (l.drop (0 + 1)) by
              have h9 := grp_run 1 (l.drop 0) ⟨sk, sp, sa, sb⟩ hm1 (by rw [List.length_drop, HL.out]; omega) (fun t ht => by rw [← HA.out t ht]; simp [List.getD_eq_getElem?_getD]) (.inl rfl) (.inl HK.out)
              rw [h9, List.drop_drop])
            have HF := Lib.hid (show (ws ++ [T]) ++ (grp (l.drop (0 + 1))).map wordG = (grp l).map wordG by
              rw [← HT.out, HQ.out, ← HTG1.out]
              simp)
            have HJK := Lib.hid (show j2 = 0 + 1 by have := HJM.out; omega)
            go_wp2_with fail
            go_quiet (fail)
            go_wp2_with fail
            go_roundw
            case rel => exact ⟨G, 0 + 1, ws ++ [T], rfl, by have := HJK.out; subst this; go_num, by omega, by omega, Lib.hid (by have := HJ.out []; rw [List.append_nil, List.append_nil] at this; exact this.symm), Lib.hid (by simp), Lib.hid (Ext.drewN HE5.out _), HF⟩
            case measure => have hjm := HJM.out; simp [intOf] <;> omega
      · have hws : ¬ ws = [] := fun h => hk0 (HW.out.2 h)
        obtain ⟨S1, hS1⟩ : ∃ S1, S ++ [32] = S1 := ⟨_, rfl⟩
        obtain ⟨G, hG⟩ : ∃ G, S1 ++ T = G := ⟨_, rfl⟩
        have hcat1 : (⟨S.toArray⟩ ++ ⟨#[32]⟩ : ByteArray) = ⟨S1.toArray⟩ := by rw [← hS1]; exact str_app S [32]
        have hcat : (⟨S1.toArray⟩ ++ ⟨T.toArray⟩ : ByteArray) = ⟨G.toArray⟩ := by rw [← hG]; exact str_app S1 T
        have hs1l : S1.length ≤ 200 * k + 1 := by rw [← hS1, List.length_append]; simp; omega
        have HJ := Lib.hid (show ∀ x, joinB 32 (ws ++ [T ++ x]) = G ++ x from fun x => by rw [join_snoc, if_neg hws, ← hG, ← hS1, HS.out]; simp)
        have hgl : G.length ≤ 200 * k + 101 := by rw [← hG, List.length_append]; omega
        have q9 : (0 : Int) < (k : Int) := by omega
        clear hG hws hS1
        go_wp2_with (go_at_call 65; go_loud (((with_reducible refine (HWC.out _).mono ?_); rintro e w2 ⟨rfl, hq2⟩; have HE2 := Lib.hid hq2; clear hq2)))
        have HEW := Lib.hid (HE.out.trans HE2.out)
        go_loopw [4, 5] (fun i q wi => ∃ (j m : Nat), i = .int .i64 j ∧ q = .int .i64 m ∧ 1 ≤ m ∧ j + 1 = k + m ∧ k + m ≤ n ∧ Hid (m = 1 ∨ sk = 1) ∧ Hid (∀ t, t < m → l.getD (k + t) st0 = ⟨sk, sp, sa, sb⟩) ∧ wi.heap = w2.heap ∧ Hid (Ext w2 wi)) (fun _ q _ => n - k - (intOf q).toNat)
        case atStart => exact ⟨k, 1, rfl, rfl, Nat.le_refl _, rfl, by omega, Lib.hid (.inl rfl), Lib.hid (fun t ht => (by obtain rfl : t = 0 := (by omega); exact HS0.out)), rfl, Lib.hid (Ext.refl _)⟩
        case round =>
          obtain ⟨j, m, rfl, rfl, hm1, hjm, hm2, hm3, HA, hheap, HE3⟩ := hrel
          have HE4 := Lib.hid (HE2.out.trans HE3.out)
          have HE5 := Lib.hid (HEW.out.trans HE3.out)
          have hx : l.getD j st0 = ⟨sk, sp, sa, sb⟩ := by
            have h9 := HA.out (m - 1) (by omega)
            rw [show k + (m - 1) = j by omega] at h9
            exact h9
          obtain ⟨d1, d2, d3, d4⟩ := HC.out j (by omega)
          rw [hx] at d1 d2 d3 d4
          clear hx
          simp only at d1 d2 d3 d4
          replace d1 := (Below.cell (p := ⟨b, _, none⟩) HE4.out hb1).trans d1
          replace d2 := (Below.cell (p := ⟨b, _, none⟩) HE4.out hb1).trans d2
          replace d3 := (Below.cell (p := ⟨b, _, none⟩) HE4.out hb1).trans d3
          replace d4 := (Below.cell (p := ⟨b, _, none⟩) HE4.out hb1).trans d4
          have p0 : (0 : Int) ≤ (j : Int) := by omega
          have p1 : (j : Int) < (n : Int) := by omega
          obtain ⟨j2, hj2⟩ : ∃ j2, j2 = j + 1 := ⟨_, rfl⟩
          have i1 : IntKind.i64.wrap ((j : Int) + 1) = (j2 : Int) := by rw [IntWalk.i64_in ((j : Int) + 1) ⟨by omega, by omega⟩]; omega
          rw [← hj2] at hjm
          have HJ2 := Lib.hid hj2
          have HJM := Lib.hid hjm
          clear hj2 hjm
          have i2 := IntWalk.i64_in ((m : Int) + 1) ⟨by omega, by omega⟩
          by_cases hk1 : sk = 1
          · by_cases hkm : j2 < n
            · obtain ⟨e1, e2, e3, e4⟩ := HC.out j2 hkm
              replace e1 := (Below.cell (p := ⟨b, _, none⟩) HE4.out hb1).trans e1
              replace e2 := (Below.cell (p := ⟨b, _, none⟩) HE4.out hb1).trans e2
              replace e3 := (Below.cell (p := ⟨b, _, none⟩) HE4.out hb1).trans e3
              replace e4 := (Below.cell (p := ⟨b, _, none⟩) HE4.out hb1).trans e4
              have q2 : (0 : Int) ≤ (j2 : Int) := by omega
              have q3 : (j2 : Int) < (n : Int) := by omega
              by_cases hxy : l.getD j2 st0 = ⟨sk, sp, sa, sb⟩
              · rw [hxy] at e1 e2 e3 e4
                simp only at e1 e2 e3 e4
                have HA2 := Lib.hid (show ∀ t, t < m + 1 → l.getD (k + t) st0 = ⟨sk, sp, sa, sb⟩ from fun t ht => by
                  by_cases e : t = m
                  · subst e; rw [← HJM.out]; exact hxy
                  · exact HA.out t (by omega))
                clear hxy
                subst hk1
                go_wp2_with fail
                go_quiet (fail)
                go_wp2
                go_roundw
                case rel => exact ⟨j2, m + 1, by go_num, by go_num, by omega, by have := HJM.out; omega, by have := HJM.out; omega, Lib.hid (by first | exact .inr rfl | exact .inr trivial), HA2, hheap, Lib.hid (Ext.drewN HE3.out _)⟩
                case measure => have hjm := HJM.out; simp [intOf] <;> omega
              · generalize hy : l.getD j2 st0 = y at *
                obtain ⟨y1, y2, y3, y4⟩ := y
                simp only at e1 e2 e3 e4
                have hne := run_st_eq (fun e => hxy e)
                have HNE := Lib.hid hxy
                clear hxy
                subst hk1
                have HQ := Lib.hid (show grp (l.drop k) = (⟨1, sp, sa, sb⟩, m) :: grp (l.drop (k + m)) by
                  have h9 := grp_run m (l.drop k) ⟨1, sp, sa, sb⟩ hm1 (by rw [List.length_drop, HL.out]; omega) (fun t ht => by rw [← HA.out t ht]; simp [List.getD_eq_getElem?_getD]) (.inr rfl) (.inr (.inr (by have h8 : (l.drop k).getD m st0 = ⟨y1, y2, y3, y4⟩ := (by rw [← hy, HJM.out]; simp [List.getD_eq_getElem?_getD]); rw [h8]; exact HNE.out)))
                  rw [h9, List.drop_drop])
                by_cases hm : m = 1
                · subst hm
                  have HF := Lib.hid (show (ws ++ [T]) ++ (grp (l.drop (k + 1))).map wordG = (grp l).map wordG by
                    rw [← HT.out, HQ.out, ← HTG1.out]
                    simp)
                  have HJK := Lib.hid (show j2 = k + 1 by have := HJM.out; omega)
                  go_wp2_with fail
                  go_quiet (fail)
                  go_wp2_with fail
                  go_roundw
                  case rel => exact ⟨G, k + 1, ws ++ [T], rfl, by have := HJK.out; subst this; go_num, by omega, by omega, Lib.hid (by have := HJ.out []; rw [List.append_nil, List.append_nil] at this; exact this.symm), Lib.hid (by simp), Lib.hid (Ext.drewN HE5.out _), HF⟩
                  case measure => have hjm := HJM.out; simp [intOf] <;> omega
                · have hm9 : (1 : Int) < (m : Int) := by omega
                  obtain ⟨D, hD⟩ : ∃ D, decD m = D := ⟨_, rfl⟩
                  obtain ⟨G2, hG2⟩ : ∃ G2, G ++ D = G2 := ⟨_, rfl⟩
                  have HIC := Lib.hid (show ∀ w', Calls Tryz.prog 52 #[.int .i64 (m : Int)] w' fun e w'' => e = .returned (.string ⟨D.toArray⟩) ∧ Ext w' w'' from fun w' => by
                    have h9 := decimal_any m (by omega) w'
                    rw [hD] at h9
                    exact h9)
                  have hcat9 : (⟨G.toArray⟩ ++ ⟨D.toArray⟩ : ByteArray) = ⟨G2.toArray⟩ := by rw [← hG2]; exact str_app G D
                  have hTG : wordG (⟨1, sp, sa, sb⟩, m) = T ++ D := by rw [wordG, if_pos (by simp only; omega), HTT.out, hD]
                  have HTG := Lib.hid hTG
                  have dl : D.length ≤ 20 := by rw [← hD]; exact dec_len m
                  have g2l : G2.length ≤ 200 * k + 121 := by rw [← hG2, List.length_append]; omega
                  have HG2 := Lib.hid hG2
                  clear hD hG2 hTG
                  have HF := Lib.hid (show (ws ++ [T ++ D]) ++ (grp (l.drop (k + m))).map wordG = (grp l).map wordG by
                    rw [← HT.out, HQ.out, List.map_cons, HTG.out]
                    simp)
                  go_wp2_with fail
                  go_quiet (fail)
                  go_wp2_with (go_at_call 52; go_loud (((with_reducible refine (HIC.out _).mono ?_); rintro e w7 ⟨rfl, hq7⟩; have HE7 := Lib.hid (HE5.out.trans (Ext.trans (by repeat (first | exact Ext.refl _ | refine Ext.drew ?_ | refine Ext.drewN ?_ _ | refine Ext.alloc ?_ _)) hq7)); clear hq7)))
                  go_roundw
                  case rel => exact ⟨G2, k + m, ws ++ [T ++ D], rfl, by rw [← HJM.out], by omega, by omega, Lib.hid (by rw [← HG2.out]; exact (HJ.out D).symm), Lib.hid (by simp <;> omega), HE7, HF⟩
                  case measure => have hjm := HJM.out; simp [intOf] <;> omega
            · have hkm2 : ¬ ((j2 : Int) < (n : Int)) := by omega
              subst hk1
              have HQ := Lib.hid (show grp (l.drop k) = (⟨1, sp, sa, sb⟩, m) :: grp (l.drop (k + m)) by
                have h9 := grp_run m (l.drop k) ⟨1, sp, sa, sb⟩ hm1 (by rw [List.length_drop, HL.out]; omega) (fun t ht => by rw [← HA.out t ht]; simp [List.getD_eq_getElem?_getD]) (.inr rfl) (.inr (.inl (by have := HJM.out; rw [List.length_drop, HL.out]; omega)))
                rw [h9, List.drop_drop])
              by_cases hm : m = 1
              · subst hm
                have HF := Lib.hid (show (ws ++ [T]) ++ (grp (l.drop (k + 1))).map wordG = (grp l).map wordG by
                  rw [← HT.out, HQ.out, ← HTG1.out]
                  simp)
                have HJK := Lib.hid (show j2 = k + 1 by have := HJM.out; omega)
                go_wp2_with fail
                go_quiet (fail)
                go_wp2_with fail
                go_roundw
                case rel => exact ⟨G, k + 1, ws ++ [T], rfl, by have := HJK.out; subst this; go_num, by omega, by omega, Lib.hid (by have := HJ.out []; rw [List.append_nil, List.append_nil] at this; exact this.symm), Lib.hid (by simp), Lib.hid (Ext.drewN HE5.out _), HF⟩
                case measure => have hjm := HJM.out; simp [intOf] <;> omega
              · have hm9 : (1 : Int) < (m : Int) := by omega
                obtain ⟨D, hD⟩ : ∃ D, decD m = D := ⟨_, rfl⟩
                obtain ⟨G2, hG2⟩ : ∃ G2, G ++ D = G2 := ⟨_, rfl⟩
                have HIC := Lib.hid (show ∀ w', Calls Tryz.prog 52 #[.int .i64 (m : Int)] w' fun e w'' => e = .returned (.string ⟨D.toArray⟩) ∧ Ext w' w'' from fun w' => by
                  have h9 := decimal_any m (by omega) w'
                  rw [hD] at h9
                  exact h9)
                have hcat9 : (⟨G.toArray⟩ ++ ⟨D.toArray⟩ : ByteArray) = ⟨G2.toArray⟩ := by rw [← hG2]; exact str_app G D
                have hTG : wordG (⟨1, sp, sa, sb⟩, m) = T ++ D := by rw [wordG, if_pos (by simp only; omega), HTT.out, hD]
                have HTG := Lib.hid hTG
                have dl : D.length ≤ 20 := by rw [← hD]; exact dec_len m
                have g2l : G2.length ≤ 200 * k + 121 := by rw [← hG2, List.length_append]; omega
                have HG2 := Lib.hid hG2
                clear hD hG2 hTG
                have HF := Lib.hid (show (ws ++ [T ++ D]) ++ (grp (l.drop (k + m))).map wordG = (grp l).map wordG by
                  rw [← HT.out, HQ.out, List.map_cons, HTG.out]
                  simp)
                go_wp2_with fail
                go_quiet (fail)
                go_wp2_with (go_at_call 52; go_loud (((with_reducible refine (HIC.out _).mono ?_); rintro e w7 ⟨rfl, hq7⟩; have HE7 := Lib.hid (HE5.out.trans (Ext.trans (by repeat (first | exact Ext.refl _ | refine Ext.drew ?_ | refine Ext.drewN ?_ _ | refine Ext.alloc ?_ _)) hq7)); clear hq7)))
                go_roundw
                case rel => exact ⟨G2, k + m, ws ++ [T ++ D], rfl, by rw [← HJM.out], by omega, by omega, Lib.hid (by rw [← HG2.out]; exact (HJ.out D).symm), Lib.hid (by simp <;> omega), HE7, HF⟩
                case measure => have hjm := HJM.out; simp [intOf] <;> omega
          · have hk2 : (sk == 1) = false := by simpa using hk1
            have HK := Lib.hid hk1
            obtain rfl : m = 1 := by rcases hm3.out with h | h
                                     · exact h
                                     · exact absurd h hk1
            clear hk1
            have HQ := Lib.hid (show grp (l.drop k) = (⟨sk, sp, sa, sb⟩, 1) :: grp (l.drop (k + 1)) by
              have h9 := grp_run 1 (l.drop k) ⟨sk, sp, sa, sb⟩ hm1 (by rw [List.length_drop, HL.out]; omega) (fun t ht => by rw [← HA.out t ht]; simp [List.getD_eq_getElem?_getD]) (.inl rfl) (.inl HK.out)
              rw [h9, List.drop_drop])
            have HF := Lib.hid (show (ws ++ [T]) ++ (grp (l.drop (k + 1))).map wordG = (grp l).map wordG by
              rw [← HT.out, HQ.out, ← HTG1.out]
              simp)
            have HJK := Lib.hid (show j2 = k + 1 by have := HJM.out; omega)
            go_wp2_with fail
            go_quiet (fail)
            go_wp2_with fail
            go_roundw
            case rel => exact ⟨G, k + 1, ws ++ [T], rfl, by have := HJK.out; subst this; go_num, by omega, by omega, Lib.hid (by have := HJ.out []; rw [List.append_nil, List.append_nil] at this; exact this.symm), Lib.hid (by simp), Lib.hid (Ext.drewN HE5.out _), HF⟩
            case measure => have hjm := HJM.out; simp [intOf] <;> omega
    · obtain rfl : k = n := by omega
      have HV0 := Lib.hid (show ws = (grp l).map wordG by
        have h9 := HT.out
        rw [List.drop_of_length_le (Nat.le_of_eq HL.out)] at h9
        simpa [grp] using h9)
      have HS9 := Lib.hid (show S = textL l by rw [HS.out, HV0.out]; rfl)
      go_wp2_with fail
      go_ret
      exact ⟨by rw [HS9.out]; rfl, HE.out⟩
end Go.Proofs.YtfbfkoeaihknoaaGreatDoor
/- The reference's Parse. -/
namespace Go.Proofs.YtfbfkoeaihknoaaGreatDoor
set_option maxRecDepth 100000
set_option maxRecDepth 100000
open Go.RowKit Go.ChangeShapes Go.WideShapes Go.Joins
theorem refParts_len {k : Int} {p : Bool} {P : List (List UInt8)} {L : List St} (h : refParts k p P = some L) : L.length ≤ 300 := by
  unfold refParts at h
  repeat' split at h
  · obtain ⟨b, -, h2⟩ := Option.bind_eq_some_iff.1 h
    obtain ⟨a, -, h3⟩ := Option.bind_eq_some_iff.1 h2
    cases h3
    simp
  · cases h
  · obtain ⟨a, -, h3⟩ := Option.bind_eq_some_iff.1 h
    cases h3
    simp
  · cases h
theorem refWord_len {l : List UInt8} {L : List St} (h : refWord l = some L) : L.length ≤ 300 := by
  unfold refWord at h
  repeat' split at h
  all_goals first
    | (cases h; done)
    | (cases h; simp; done)
    | exact refParts_len h
    | (obtain ⟨a, -, h3⟩ := Option.bind_eq_some_iff.1 h; cases h3; simp; done)
    | (cases h; simp; omega)
theorem rgo_drop {ws : List (List UInt8)} {k : Nat} (hk : k < ws.length) (acc : List St) : rparseGo acc (ws.drop k) = match refWord (ws.getD k []) with
    | none => none
    | some l => if 200 < (acc ++ l).length then none else rparseGo (acc ++ l) (ws.drop (k + 1)) := by
  rw [List.drop_eq_getElem_cons hk, rparseGo, List.getD_eq_getElem?_getD, List.getElem?_eq_getElem hk]
  rfl
theorem rparse_end {s : List UInt8} {acc : List St} (hs : s.length ≤ 3000) (h0 : s ≠ []) (h : rparseGo [] (spl 32 s) = some acc) : parseL s = if allE acc = 0 ∧ textL acc = s then some acc else none := by
  rw [← rparse_eq, rparseL, if_neg (by omega), rparseW, if_neg h0, h]
  rfl
theorem rparse_bad {s : List UInt8} (hs : s.length ≤ 3000) (h0 : s ≠ []) (h : rparseGo [] (spl 32 s) = none) : parseL s = none := by
  rw [← rparse_eq, rparseL, if_neg (by omega), rparseW, if_neg h0, h]
  rfl
def ParseX (s : List UInt8) (w : World) (e : Ending) (w' : World) : Prop := ∃ (A : Option Addr) (n c : Nat), e = .returned (.tuple #[.slice A n c, .int .i64 (parseE s)]) ∧ Ext w w' ∧ Vec shSt w' A n (parseV s)
theorem ParseR.x {s : List UInt8} {w : World} {e : Ending} {w' : World} (h : ParseR s w e w') : ParseX s w e w' := by
  obtain ⟨v, rfl, h1, h2⟩ := h
  obtain ⟨A, c, rfl, h3⟩ := own_vec h1
  exact ⟨A, _, c, rfl, h2, h3⟩
theorem rparse_long (l : List UInt8) (hl : 3000 < l.length) (h : (l.length : Int) ≤ 1000000000) (w : World) : Calls Tryz.prog 57 #[.string ⟨l.toArray⟩] w (ParseR l w) := by
  have h1 := Lib.hid (show parseL l = none by rw [parseL, if_pos hl])
  have h2 : (3000 : Int) < (l.length : Int) := by omega
  clear hl
  go_enter Tryz.func57, Tryz.ntmps57
  go_wp2_with fail
  go_ret2
  exact parse_fail h1.out (by repeat (first | exact Ext.refl _ | assumption | refine Ext.alloc ?_ _ | refine Ext.drew ?_ | refine Ext.drewN ?_ _ | refine Ext.trans ?_ (by assumption)))
theorem rparse_nil (w : World) : Calls Tryz.prog 57 #[.string ⟨([] : List UInt8).toArray⟩] w (ParseR [] w) := by
  have HF := Lib.hid (show parseL [] = some [] by decide +kernel)
  go_enter Tryz.func57, Tryz.ntmps57
  go_wp2_with fail
  go_ret2
  exact parse_done HF.out (OwnV.nil _ _ _ _) (by repeat (first | exact Ext.refl _ | assumption | refine Ext.alloc ?_ _ | refine Ext.drew ?_ | refine Ext.drewN ?_ _ | refine Ext.trans ?_ (by assumption)))
set_option maxHeartbeats 4000000 in
theorem rparse_main (l : List UInt8) (h0 : l ≠ []) (hl : l.length ≤ 3000) (w : World) : Calls Tryz.prog 57 #[.string ⟨l.toArray⟩] w (ParseR l w) := by
  have HS := Lib.hid (show Calls Tryz.prog 69 #[.string ⟨l.toArray⟩, .int .u8 32] w fun e w'' => ∃ v, e = .returned v ∧ OwnV shStr w'' w.heap.size 9 v (spl 32 l).length (spl 32 l) ∧ Ext w w'' from cut_any 32 l (by omega) w)
  have hwl := spl_words_len 32 l
  have HPE := Lib.hid (fun (acc : List St) (h : rparseGo [] (spl 32 l) = some acc) => rparse_end hl h0 h)
  have HPB := Lib.hid (fun (h : rparseGo [] (spl 32 l) = none) => rparse_bad hl h0 h)
  generalize spl 32 l = ws at *
  obtain ⟨hw1, hw2⟩ := hwl
  have HW := Lib.hid hw2
  obtain ⟨n, hn⟩ : ∃ n, ws.length = n := ⟨_, rfl⟩
  rw [hn] at HS
  have hn2 : n ≤ 3001 := by omega
  have hlen : ¬ (3000 : Int) < (l.length : Int) := by omega
  have hE : (l == []) = false := by simpa using h0
  clear hw2 h0
  go_enter Tryz.func57, Tryz.ntmps57
  go_wp2_with (go_at_call 69; go_loud ((with_reducible refine HS.out.mono ?_); rintro e w1 ⟨v1, rfl, hv1, hq1⟩; obtain ⟨A1, c1, rfl, hvv, -⟩ := own_vecB hv1; have HQ1 := Lib.hid hq1; have HV1 := Lib.hid hv1; clear hq1 hv1 hvv))
  go_loopw [5, 6] (fun u i wr => ∃ (V : Value) (k : Nat) (acc : List St), V = u ∧ i = .int .i64 k ∧ k ≤ n ∧ acc.length ≤ 200 ∧ Hid (OwnV shSt wr w1.heap.size 39 V acc.length acc) ∧ Hid (Ext w1 wr) ∧ Hid (rparseGo [] ws = rparseGo acc (ws.drop k))) (fun _ i _ => n - (intOf i).toNat)
  case atStart => exact ⟨_, 0, [], rfl, rfl, Nat.zero_le _, by simp, Lib.hid (OwnV.nil _ _ _ _), Lib.hid (Ext.refl _), Lib.hid rfl⟩
  case round =>
    obtain ⟨V, k, acc, rfl, rfl, hk, hal, HV, HE1, HP⟩ := hrel
    have HE := Lib.hid (HQ1.out.trans HE1.out)
    obtain ⟨A9, c9, rfl, hv9, -⟩ := own_vecB HV.out
    have HV9 := Lib.hid hv9
    clear hv9
    by_cases hlt : k < n
    · obtain ⟨b3, off3, rfl, -, hlt3, hcs⟩ := own_strs HV1.out (by omega)
      have hcell := (Below.cell (p := ⟨b3, off3 + k, none⟩) HE1.out hlt3).trans (hcs k hlt)
      have hz := World.block_lt_of_cell? wr _ hcell
      clear hcs
      have hd := HP.out.trans (rgo_drop (ws := ws) (k := k) (by omega) acc)
      have hxl := HW.out (ws.getD k []) (by rw [List.getD_eq_getElem?_getD, List.getElem?_eq_getElem (by omega)]; exact List.getElem_mem _)
      generalize ws.getD k [] = x at *
      have q5 : (k : Int) < (n : Int) := by omega
      have q4 : (0 : Int) ≤ (k : Int) := by omega
      cases hrw : refWord x with
      | none =>
        have HR := Lib.hid (show ∀ w', Calls Tryz.prog 70 #[.string ⟨x.toArray⟩] w' (WordR none w') from fun w' => by rw [← hrw]; exact word_ref_any x (by omega) w')
        rw [hrw] at hd
        have HF := Lib.hid (HPB.out hd)
        clear hd hrw hxl HP HW
        go_wp2_with (go_at_call 70; go_loud ((with_reducible refine (HR.out _).mono ?_); rintro e w2 ⟨A2, n2, c2, rfl, hq2, -⟩; have HQ2 := Lib.hid (HE.out.trans hq2); clear hq2))
        go_ret2
        exact parse_fail HF.out HQ2.out
      | some L =>
        have hL3 := refWord_len hrw
        have HR := Lib.hid (show ∀ w', Calls Tryz.prog 70 #[.string ⟨x.toArray⟩] w' (WordR (some L) w') from fun w' => by rw [← hrw]; exact word_ref_any x (by omega) w')
        rw [hrw] at hd
        simp only at hd
        have HD := Lib.hid hd
        clear hd hrw hxl HP HW
        obtain ⟨m, hm⟩ : ∃ m, L.length = m := ⟨_, rfl⟩
        by_cases h2 : acc.length + m ≤ 200
        · have q6 : ¬ ((200 : Int) < (acc.length : Int) + (m : Int)) := by omega
          have HF := Lib.hid (HD.out.trans (if_neg (by rw [List.length_append]; omega)))
          clear HD
          go_wp2_with (first
            | (go_at_call 70; go_loud ((with_reducible refine (HR.out _).mono ?_); rintro e w2 ⟨A2, n2, c2, rfl, hq2, hv2⟩; obtain rfl : n2 = m := (by have := (hv2 L rfl).1; omega); have HQ2 := Lib.hid (HE1.out.trans hq2); have HQ3 := Lib.hid hq2; have HV2 := Lib.hid (hv2 L rfl); clear hq2 hv2))
            | (at_builtin; go_loud (refine wpList_append_vecsB (S := shSt) (w := w1) (xs := L) 35 39 (.agg #[.int .u8 0, .bool false, .int .i64 0, .int .i64 0]) 24 (by rfl) (by rfl) Tryz.underlying35 info_st (by rfl) (by omega) (by rfl) (by rfl) (OwnV.ext HV.out HQ3.out) HQ2.out HV2.out (by omega) ?_; intro v' w6 hown6 hext6 hgr6; obtain ⟨A6, c6, rfl, -, -⟩ := own_vecB hown6)))
          have HN := Lib.hid (show OwnV shSt w6 w1.heap.size 39 (.slice A6 (acc.length + n2) c6) (acc ++ L).length (acc ++ L) by
            rw [List.length_append, hm]
            exact hown6)
          clear hown6 hgr6
          go_roundw
          case rel => exact ⟨_, k + 1, acc ++ L, rfl, by go_num, by omega, by rw [List.length_append]; omega, HN, hext6, HF⟩
          case measure => simp [intOf] <;> omega
        · have q6 : (200 : Int) < (acc.length : Int) + (m : Int) := by omega
          have HF := Lib.hid (HPB.out (HD.out.trans (if_pos (by rw [List.length_append]; omega))))
          clear HD
          go_wp2_with (first
            | (go_at_call 70; go_loud ((with_reducible refine (HR.out _).mono ?_); rintro e w2 ⟨A2, n2, c2, rfl, hq2, hv2⟩; obtain rfl : n2 = m := (by have := (hv2 L rfl).1; omega); have HQ2 := Lib.hid (HE1.out.trans hq2); have HQ3 := Lib.hid hq2; have HV2 := Lib.hid (hv2 L rfl); clear hq2 hv2))
            | (at_builtin; go_loud (refine wpList_append_vecsB (S := shSt) (w := w1) (xs := L) 35 39 (.agg #[.int .u8 0, .bool false, .int .i64 0, .int .i64 0]) 24 (by rfl) (by rfl) Tryz.underlying35 info_st (by rfl) (by omega) (by rfl) (by rfl) (OwnV.ext HV.out HQ3.out) HQ2.out HV2.out (by omega) ?_; intro v' w6 hown6 hext6 hgr6; obtain ⟨A6, c6, rfl, -, -⟩ := own_vecB hown6)))
          go_ret2
          exact parse_fail HF.out (HQ1.out.trans hext6.out)
    · obtain rfl : k = n := by omega
      have hfin : rparseGo [] ws = some acc := by
        have h9 := HP.out
        rw [List.drop_of_length_le (by omega)] at h9
        exact h9
      have HL := Lib.hid (HPE.out acc hfin)
      have HSA := Lib.hid (fun (w' : World) (hb : Ext wr w') => rall_any acc.length c9 A9 acc w' (HV9.out.ext hb) (by unfold maxLen; omega))
      clear hfin HP HPE HPB HW
      by_cases hA : allE acc = 0
      · have HTX := Lib.hid (fun (w' : World) (hb : Ext wr w') => written_any acc.length c9 A9 acc w' (HV9.out.ext hb) hal (allE_e hA).2.1)
        by_cases hT : textL acc = l
        · have HF := Lib.hid (HL.out.trans (if_pos (And.intro hA hT)))
          have HAE := Lib.hid hA
          have HTE := Lib.hid hT
          clear hA hT
          go_wp2_with (first
            | (go_at_call 71; go_loud ((with_reducible refine (HSA.out _ (Ext.refl _)).mono ?_); rintro e w2 ⟨rfl, hq2⟩; rw [HAE.out]; have HQ2 := Lib.hid hq2; clear hq2))
            | (go_at_call 51; go_loud ((with_reducible refine (HTX.out _ HQ2.out).mono ?_); rintro e w3 ⟨rfl, hq3⟩; rw [HTE.out]; have HQ3 := Lib.hid (HQ2.out.trans hq3); clear hq3)))
          go_ret2
          exact parse_done HF.out ((OwnV.down HV.out HQ1.out.size).ext HQ3.out) (HE.out.trans HQ3.out)
        · have HF := Lib.hid (HL.out.trans (if_neg (fun h => hT h.2)))
          have HAE := Lib.hid hA
          have hT2 : (textL acc == l) = false := by simpa using hT
          clear hA hT
          generalize textL acc = T at *
          go_wp2_with (first
            | (go_at_call 71; go_loud ((with_reducible refine (HSA.out _ (Ext.refl _)).mono ?_); rintro e w2 ⟨rfl, hq2⟩; rw [HAE.out]; have HQ2 := Lib.hid hq2; clear hq2))
            | (go_at_call 51; go_loud ((with_reducible refine (HTX.out _ HQ2.out).mono ?_); rintro e w3 ⟨rfl, hq3⟩; have HQ3 := Lib.hid (HQ2.out.trans hq3); clear hq3)))
          go_ret2
          exact parse_fail HF.out (HE.out.trans HQ3.out)
      · have HF := Lib.hid (HL.out.trans (if_neg (fun h => hA h.1)))
        generalize hae : allE acc = ae at *
        have hb8 : (ae != 0) = true := by simpa using hA
        clear hA
        go_wp2_with (first
          | (go_at_call 71; go_loud ((with_reducible refine (HSA.out _ (Ext.refl _)).mono ?_); rintro e w2 ⟨rfl, hq2⟩; have HQ2 := Lib.hid hq2; clear hq2)))
        go_ret2
        exact parse_fail HF.out (HE.out.trans HQ2.out)
theorem rparse_own (l : List UInt8) (hl : l.length ≤ 1000000000) (w : World) : Calls Tryz.prog 57 #[.string ⟨l.toArray⟩] w (ParseR l w) := by
  by_cases h : 3000 < l.length
  · exact rparse_long l h (by omega) w
  · cases l with
    | nil => exact rparse_nil w
    | cons c r => exact rparse_main _ (by simp) (by omega) w
theorem rparse_any (l : List UInt8) (hl : l.length ≤ 1000000000) (w : World) : Calls Tryz.prog 57 #[.string ⟨l.toArray⟩] w (ParseX l w) := (rparse_own l hl w).mono fun _ _ h => h.x
end Go.Proofs.YtfbfkoeaihknoaaGreatDoor
/- Contracts with named values for the laws of terms; the chapter's examples. -/
namespace Go.Proofs.YtfbfkoeaihknoaaGreatDoor
set_option maxRecDepth 100000
set_option maxRecDepth 100000
open Go.RowKit Go.ChangeShapes Go.WideShapes Go.Joins
/-- Find of at most 60 valid cells -/
theorem find_c {n c : Nat} {A : Option Addr} {l : List St} {w : World} (hv : Vec shSt w A n l) (hb : allB l = true) (hl : n ≤ 60) :
    Calls Tryz.prog 23 #[.slice A n c] w fun e w' => ∃ (A' : Option Addr) (c' : Nat), e = .returned (.tuple #[.slice A' (findT l).cnt c', .int .i64 0]) ∧ Ext w w' ∧ Tv w' A' (findT l).cnt (findT l) := by
  refine (find_any n c A l w hv (bytes_ok hb) (by unfold maxLen; omega)).mono ?_
  rintro e w' ⟨A', c', rfl, h1, h2⟩
  have hE : findE l = 0 := by rw [findE, if_neg (by rw [hv.1]; omega), if_pos hb]
  have hL : findL l = findT l := by rw [findL, if_pos hE]
  rw [hL] at h2 ⊢
  rw [hE]
  exact ⟨A', c', rfl, h1, h2.tv⟩
theorem fsz {l : List St} (hb : allB l = true) (hl : l.length ≤ 60) : tszV (findT l) = ((findT l).size : Int) := by
  have h1 := find_chk hb hl
  have h2 := find_len l
  have hz : szM (findT l) = ((findT l).size : Int) := by unfold szM; omega
  rw [tszV, if_pos h1, hz]
theorem size_f {l : List St} {A : Option Addr} {cap k : Nat} {w : World} (hv : Tv w A (findT l).cnt (findT l)) (hb : allB l = true) (hl : l.length ≤ 60) (hk : (findT l).size = k) :
    Calls Tryz.prog 26 #[.slice A (findT l).cnt cap] w fun e w' => e = .returned (.tuple #[.int .i64 (k : Int), .int .i64 0]) ∧ Ext w w' := by
  have h := tsize_any (findT l) (by have := find_len l; omega) A _ cap w hv
  rw [fsz hb hl, find_chk hb hl, hk] at h
  exact h
/-- size of at most 60 valid cells -/
theorem size_c {n c k : Nat} {A : Option Addr} {l : List St} {w : World} (hv : Vec shSt w A n l) (hb : allB l = true) (hl : n ≤ 60) (hk : (findT l).size = k) :
    Calls Tryz.prog 17 #[.slice A n c] w fun e w' => e = .returned (.int .i64 (k : Int)) ∧ Ext w w' := by
  have HV := Lib.hid hv
  have HL := Lib.hid hv.1
  clear hv
  go_enter Tryz.func17, Tryz.ntmps17
  go_wp2_with (first
    | (go_at_call 23; ((with_reducible refine (find_c (HV.out.ext (by repeat (first | exact Ext.refl _ | assumption | refine Ext.alloc ?_ _ | refine Ext.drew ?_ | refine Ext.drewN ?_ _ | refine Ext.trans ?_ (by assumption)))) hb hl).mono ?_); rintro e w1 ⟨A1, c1, rfl, hq1, hv1⟩; have HV1 := Lib.hid hv1; clear hv1))
    | (go_at_call 26; ((with_reducible refine (size_f (HV1.out.ext (by repeat (first | exact Ext.refl _ | assumption | refine Ext.alloc ?_ _ | refine Ext.drew ?_ | refine Ext.drewN ?_ _ | refine Ext.trans ?_ (by assumption)))) hb (by have := HL.out; omega) hk).mono ?_); rintro e w2 ⟨rfl, hq2⟩)))
  go_ret
  exact ⟨rfl, by repeat (first | exact Ext.refl _ | assumption | refine Ext.alloc ?_ _ | refine Ext.drew ?_ | refine Ext.drewN ?_ _ | refine Ext.trans ?_ (by assumption))⟩
/-- the cells of a text -/
theorem cells_c {s : List UInt8} {l : List St} {w : World} (m : Nat) (h : parseL s = some l) (hm : l.length = m) :
    Calls Tryz.prog 36 #[.string ⟨s.toArray⟩] w fun e w' => ∃ (A : Option Addr) (c : Nat), e = .returned (.slice A m c) ∧ Ext w w' ∧ Vec shSt w' A m l := by
  have hs := (parse_iff.1 h).1
  obtain ⟨e1, e2⟩ := parse_some h
  have HP := Lib.hid (fun (w' : World) => (show Calls Tryz.prog 57 #[.string ⟨s.toArray⟩] w' fun e w'' => ∃ (A : Option Addr) (c : Nat), e = .returned (.tuple #[.slice A m c, .int .i64 0]) ∧ Ext w' w'' ∧ Vec shSt w'' A m l from by
    refine (rparse_own s (by omega) w').mono ?_
    rintro e w9 ⟨v, rfl, h1, h2⟩
    rw [e2] at h1
    rw [e1]
    obtain ⟨A, c, rfl, h3⟩ := own_vec h1
    rw [hm] at h3 ⊢
    exact ⟨A, c, rfl, h2, h3⟩))
  clear h hm hs e1 e2
  go_enter Tryz.func36, Tryz.ntmps36
  go_wp2_with (first
    | (go_at_call 57; ((with_reducible refine (HP.out _).mono ?_); rintro e w1 ⟨A1, c1, rfl, hq1, hv1⟩; have HV1 := Lib.hid hv1; clear hv1)))
  go_ret
  exact ⟨_, _, rfl, by repeat (first | exact Ext.refl _ | assumption | refine Ext.alloc ?_ _ | refine Ext.drew ?_ | refine Ext.drewN ?_ _ | refine Ext.trans ?_ (by assumption)), HV1.out⟩
theorem finds_c {s : List UInt8} {l : List St} {T : List UInt8} {k : Nat} {w : World} (m : Nat) (h : parseL s = some l) (hm : l.length = m) (hm60 : m ≤ 60) (hT : wT (findT l) = T) (hTl : T.length ≤ 3000) (hk : (findT l).size = k) (hg : Glob w) :
    Calls Tryz.prog 18 #[.string ⟨s.toArray⟩, .string ⟨T.toArray⟩, .int .i64 (k : Int)] w fun e w' => e = .returned (.bool true) ∧ Ext w w' := by
  have hal : allB l = true := (allE_e (parse_iff.1 h).2.1).2.1
  have HC := Lib.hid (fun (w' : World) => cells_c (w := w') m h hm)
  have HG := Lib.hid hg
  have hck := find_chk hal (by omega)
  have HTX := Lib.hid (show ttextE (findT l) = 0 ∧ ttextV (findT l) = T by
    have h1 : ttextE (findT l) = 0 := by rw [ttextE, if_neg (by rw [hck]; simp), hT, if_neg (by omega)]
    exact ⟨h1, by rw [ttextV, if_pos h1, hT]⟩)
  have hsz : (findT l).size ≤ 5000 := by have := find_len l; omega
  have HTT := Lib.hid (fun (A : Option Addr) (cap : Nat) (w' : World) (hv : Tv w' A (findT l).cnt (findT l)) (hg' : Glob w') => (show Calls Tryz.prog 10 #[.slice A (findT l).cnt cap] w' fun e w'' => e = .returned (.tuple #[.string ⟨T.toArray⟩, .int .i64 0]) ∧ Ext w' w'' from by
    have h9 := ttext_any (findT l) hsz A _ cap w' hv hg'
    unfold TxR at h9
    rw [HTX.out.1, HTX.out.2] at h9
    exact h9))
  have HLM := Lib.hid hm
  clear h hg hm hT
  go_enter Tryz.func18, Tryz.ntmps18
  go_wp2_with (first
    | (go_at_call 36; ((with_reducible refine (HC.out _).mono ?_); rintro e w1 ⟨A1, c1, rfl, hq1, hv1⟩; have HV1 := Lib.hid hv1; clear hv1))
    | (go_at_call 23; ((with_reducible refine (find_c (HV1.out.ext (by repeat (first | exact Ext.refl _ | assumption | refine Ext.alloc ?_ _ | refine Ext.drew ?_ | refine Ext.drewN ?_ _ | refine Ext.trans ?_ (by assumption)))) hal hm60).mono ?_); rintro e w2 ⟨A2, c2, rfl, hq2, hv2⟩; have HV2 := Lib.hid hv2; clear hv2))
    | (go_at_call 10; ((with_reducible refine (HTT.out _ _ _ (HV2.out.ext (by repeat (first | exact Ext.refl _ | assumption | refine Ext.alloc ?_ _ | refine Ext.drew ?_ | refine Ext.drewN ?_ _ | refine Ext.trans ?_ (by assumption)))) (HG.out.ext (by repeat (first | exact Ext.refl _ | assumption | refine Ext.alloc ?_ _ | refine Ext.drew ?_ | refine Ext.drewN ?_ _ | refine Ext.trans ?_ (by assumption))))).mono ?_); rintro e w3 ⟨rfl, hq3⟩))
    | (go_at_call 26; ((with_reducible refine (size_f (HV2.out.ext (by repeat (first | exact Ext.refl _ | assumption | refine Ext.alloc ?_ _ | refine Ext.drew ?_ | refine Ext.drewN ?_ _ | refine Ext.trans ?_ (by assumption)))) hal (by have := HLM.out; omega) hk).mono ?_); rintro e w4 ⟨rfl, hq4⟩)))
  all_goals (go_ret; exact ⟨by first | rfl | simp, by repeat (first | exact Ext.refl _ | assumption | refine Ext.alloc ?_ _ | refine Ext.drew ?_ | refine Ext.drewN ?_ _ | refine Ext.trans ?_ (by assumption))⟩)
/-- what Parse accepts -/
theorem rdparse_c {s : List UInt8} {t : Tms} {w : World} (h : parseT atoiO s = some t) (hs : s.length ≤ 3000) (ha : Asc s) (hg : Glob w) :
    Calls Tryz.prog 12 #[.string ⟨s.toArray⟩] w fun e w' => ∃ (A : Option Addr) (c : Nat), e = .returned (.tuple #[.slice A t.cnt c, .int .i64 0]) ∧ Ext w w' ∧ Tv w' A t.cnt t := by
  refine (parse_rd s (by omega) ha w hg).mono ?_
  rintro e w' ⟨v, x, rfl, h1, h2⟩
  rcases h2 with ⟨h3, -, -⟩ | ⟨t', h3, rfl, ho⟩
  · rw [h] at h3; cases h3
  · rw [h] at h3
    cases h3
    have hs2 : t.size ≤ 200 := (tchk_parts ((parseT_iff at_hat).1 h).2.1).1
    have hc := cnt_size t
    obtain ⟨A, c, rfl, hk⟩ := own_tms ho (by omega)
    exact ⟨A, c, rfl, h1, hk.tv⟩
theorem exA_p : parseL [107, 50, 32, 121, 111, 32, 107, 50, 32, 121, 111, 32, 112] = some [⟨1, false, 0, 0⟩, ⟨1, false, 0, 0⟩, ⟨2, false, 0, 0⟩, ⟨1, false, 0, 0⟩, ⟨1, false, 0, 0⟩, ⟨2, false, 0, 0⟩, ⟨1, true, 0, 0⟩] := by decide +kernel
theorem exA_t : wT (findT [⟨1, false, 0, 0⟩, ⟨1, false, 0, 0⟩, ⟨2, false, 0, 0⟩, ⟨1, false, 0, 0⟩, ⟨1, false, 0, 0⟩, ⟨2, false, 0, 0⟩, ⟨1, true, 0, 0⟩]) = [40, 107, 42, 50, 32, 121, 111, 41, 42, 50, 32, 112] := by decide +kernel
theorem exA_k : (findT [⟨1, false, 0, 0⟩, ⟨1, false, 0, 0⟩, ⟨2, false, 0, 0⟩, ⟨1, false, 0, 0⟩, ⟨1, false, 0, 0⟩, ⟨2, false, 0, 0⟩, ⟨1, true, 0, 0⟩]).size = 4 := by decide +kernel
theorem exA_f (w : World) (hg : Glob w) : Calls Tryz.prog 18 #[.string ⟨#[107, 50, 32, 121, 111, 32, 107, 50, 32, 121, 111, 32, 112]⟩, .string ⟨#[40, 107, 42, 50, 32, 121, 111, 41, 42, 50, 32, 112]⟩, .int .i64 4] w fun e w' => e = .returned (.bool true) ∧ Ext w w' :=
  finds_c (k := 4) 7 exA_p rfl (by omega) exA_t (by decide) exA_k hg
theorem exB_p : parseL [107, 32, 112, 32, 107, 32, 112, 32, 107, 32, 112] = some [⟨1, false, 0, 0⟩, ⟨1, true, 0, 0⟩, ⟨1, false, 0, 0⟩, ⟨1, true, 0, 0⟩, ⟨1, false, 0, 0⟩, ⟨1, true, 0, 0⟩] := by decide +kernel
theorem exB_t : wT (findT [⟨1, false, 0, 0⟩, ⟨1, true, 0, 0⟩, ⟨1, false, 0, 0⟩, ⟨1, true, 0, 0⟩, ⟨1, false, 0, 0⟩, ⟨1, true, 0, 0⟩]) = [40, 107, 32, 112, 41, 42, 51] := by decide +kernel
theorem exB_k : (findT [⟨1, false, 0, 0⟩, ⟨1, true, 0, 0⟩, ⟨1, false, 0, 0⟩, ⟨1, true, 0, 0⟩, ⟨1, false, 0, 0⟩, ⟨1, true, 0, 0⟩]).size = 3 := by decide +kernel
theorem exB_f (w : World) (hg : Glob w) : Calls Tryz.prog 18 #[.string ⟨#[107, 32, 112, 32, 107, 32, 112, 32, 107, 32, 112]⟩, .string ⟨#[40, 107, 32, 112, 41, 42, 51]⟩, .int .i64 3] w fun e w' => e = .returned (.bool true) ∧ Ext w w' :=
  finds_c (k := 3) 6 exB_p rfl (by omega) exB_t (by decide) exB_k hg
theorem exC_p : parseL [107, 32, 112, 32, 107] = some [⟨1, false, 0, 0⟩, ⟨1, true, 0, 0⟩, ⟨1, false, 0, 0⟩] := by decide +kernel
theorem exC_t : wT (findT [⟨1, false, 0, 0⟩, ⟨1, true, 0, 0⟩, ⟨1, false, 0, 0⟩]) = [107, 32, 112, 32, 107] := by decide +kernel
theorem exC_k : (findT [⟨1, false, 0, 0⟩, ⟨1, true, 0, 0⟩, ⟨1, false, 0, 0⟩]).size = 3 := by decide +kernel
theorem exC_f (w : World) (hg : Glob w) : Calls Tryz.prog 18 #[.string ⟨#[107, 32, 112, 32, 107]⟩, .string ⟨#[107, 32, 112, 32, 107]⟩, .int .i64 3] w fun e w' => e = .returned (.bool true) ∧ Ext w w' :=
  finds_c (k := 3) 3 exC_p rfl (by omega) exC_t (by decide) exC_k hg
abbrev exT : Tms := .cons 1 ⟨0, false, 0, 0⟩ (.cons 1 ⟨1, false, 0, 0⟩ .nil (.cons 1 ⟨1, true, 0, 0⟩ .nil .nil)) .nil
theorem exD_p : parseT atoiO [40, 107, 32, 112, 41] = some exT := (parseT_iff at_hat).2 ⟨by decide, by decide +kernel, by decide +kernel⟩
theorem exD_c (w : World) (hg : Glob w) : Calls Tryz.prog 12 #[.string ⟨#[40, 107, 32, 112, 41]⟩] w fun e w' => ∃ (b off c : Nat), e = .returned (.tuple #[.slice (some ⟨b, off, none⟩) 1 c, .int .i64 0]) ∧ Ext w w' ∧ Tv w' (some ⟨b, off, none⟩) 1 exT ∧ b < w'.heap.size ∧ w'.cell? ⟨b, off, none⟩ = some (.int .i64 1) := by
  refine (rdparse_c exD_p (by decide) (by unfold Asc; decide) hg).mono ?_
  rintro e w' ⟨A, c, rfl, h1, h2⟩
  obtain ⟨b, off, rfl, hlt, hc⟩ := h2.2.2 (by decide)
  obtain ⟨A', n', cap', h0, -⟩ := hc.head
  exact ⟨b, off, c, rfl, h1, h2, hlt, h0⟩
theorem exD_s {A : Option Addr} {c : Nat} {w : World} (hv : Tv w A 1 exT) : Calls Tryz.prog 26 #[.slice A 1 c] w fun e w' => e = .returned (.tuple #[.int .i64 3, .int .i64 0]) ∧ Ext w w' := by
  have h := tsize_any exT (by decide) A 1 c w hv
  rw [show tszV exT = 3 by decide +kernel, show tchkE exT = 0 by decide +kernel] at h
  exact h
set_option maxHeartbeats 4000000 in
/-- the chapter's examples -/
theorem shalive_any (w : World) (hg : Glob w) : Calls Tryz.prog 15 #[] w fun e w' => e = .returned (.bool true) ∧ Ext w w' := by
  have HG := Lib.hid hg
  have HB := Lib.hid (Ext.refl w)
  clear hg
  go_enter Tryz.func15, Tryz.ntmps15
  go_wp2_with (first
    | (go_at_call 12; go_loud ((with_reducible refine (exD_c _ (HG.out.ext HB.out)).mono ?_); rintro e w1 ⟨b, off, c, rfl, hq, hv, hlt, hc0⟩; replace HB := Lib.hid (HB.out.trans hq); have HV := Lib.hid hv; clear hq hv))
    | (go_at_call 26; go_loud ((with_reducible refine (exD_s HV.out).mono ?_); rintro e w2 ⟨rfl, hq⟩; obtain ⟨hf1, hf2, hf3⟩ := hq.facts; replace HB := Lib.hid (HB.out.trans hq); have HQ2 := Lib.hid hq; clear hq))
    | (go_at_call 18; (first
      | ((with_reducible refine (exA_f _ (HG.out.ext (HB.out.trans (by repeat (first | exact Ext.refl _ | assumption | refine Ext.alloc ?_ _ | refine Ext.drew ?_ | refine Ext.drewN ?_ _ | refine Ext.trans ?_ (by assumption)))))).mono ?_); rintro e w3 ⟨rfl, hq⟩; replace HB := Lib.hid (HB.out.trans (Ext.trans (by repeat (first | exact Ext.refl _ | assumption | refine Ext.alloc ?_ _ | refine Ext.drew ?_ | refine Ext.drewN ?_ _ | refine Ext.trans ?_ (by assumption))) hq)); have HQA := Lib.hid hq; clear hq)
      | ((with_reducible refine (exB_f _ (HG.out.ext (HB.out.trans (by repeat (first | exact Ext.refl _ | assumption | refine Ext.alloc ?_ _ | refine Ext.drew ?_ | refine Ext.drewN ?_ _ | refine Ext.trans ?_ (by assumption)))))).mono ?_); rintro e w4 ⟨rfl, hq⟩; replace HB := Lib.hid (HB.out.trans (Ext.trans (by repeat (first | exact Ext.refl _ | assumption | refine Ext.alloc ?_ _ | refine Ext.drew ?_ | refine Ext.drewN ?_ _ | refine Ext.trans ?_ (by assumption))) hq)); have HQB := Lib.hid hq; clear hq)
      | (go_loud ((with_reducible refine (exC_f _ (HG.out.ext (HB.out.trans (by repeat (first | exact Ext.refl _ | assumption | refine Ext.alloc ?_ _ | refine Ext.drew ?_ | refine Ext.drewN ?_ _ | refine Ext.trans ?_ (by assumption)))))).mono ?_); rintro e w5 ⟨rfl, hq⟩; have hx := (HQ2.out.trans (Ext.trans (by repeat (first | exact Ext.refl _ | assumption | refine Ext.alloc ?_ _ | refine Ext.drew ?_ | refine Ext.drewN ?_ _ | refine Ext.trans ?_ (by assumption))) (HQA.out.trans (Ext.trans (by repeat (first | exact Ext.refl _ | assumption | refine Ext.alloc ?_ _ | refine Ext.drew ?_ | refine Ext.drewN ?_ _ | refine Ext.trans ?_ (by assumption))) (HQB.out.trans (Ext.trans (by repeat (first | exact Ext.refl _ | assumption | refine Ext.alloc ?_ _ | refine Ext.drew ?_ | refine Ext.drewN ?_ _ | refine Ext.trans ?_ (by assumption))) hq)))))); obtain ⟨hg1, hg2, hg3⟩ := hx.facts; replace HB := Lib.hid (HB.out.trans (Ext.trans (by repeat (first | exact Ext.refl _ | assumption | refine Ext.alloc ?_ _ | refine Ext.drew ?_ | refine Ext.drewN ?_ _ | refine Ext.trans ?_ (by assumption))) hq)); clear hq hx)))))
  go_ret
  exact ⟨by first | rfl | simp, HB.out.trans (by repeat (first | exact Ext.refl _ | assumption | refine Ext.alloc ?_ _ | refine Ext.drew ?_ | refine Ext.drewN ?_ _ | refine Ext.trans ?_ (by assumption)))⟩
end Go.Proofs.YtfbfkoeaihknoaaGreatDoor
