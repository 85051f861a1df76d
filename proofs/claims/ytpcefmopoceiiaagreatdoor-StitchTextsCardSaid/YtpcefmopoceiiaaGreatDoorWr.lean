/- The reference's Written: the text of a list of stitches. -/
import Derived.Test.YtpcefmopoceiiaaGreatDoorOne
import Derived.Test.YtpcefmopoceiiaaGreatDoorTextB
namespace Go.Proofs.YtpcefmopoceiiaaGreatDoor
set_option maxRecDepth 100000
set_option maxRecDepth 100000
open Go.RowKit
theorem join_snoc (c : UInt8) (ws : List (List UInt8)) (x : List UInt8) : joinB c (ws ++ [x]) = if ws = [] then x else joinB c ws ++ [c] ++ x := by
  induction ws with
  | nil => rfl
  | cons y ws ih =>
    rw [if_neg (by simp)]
    cases ws with
    | nil => simp [joinB]
    | cons z ws =>
      rw [if_neg (by simp)] at ih
      rw [List.cons_append, List.cons_append, joinB]
      rw [List.cons_append] at ih
      rw [ih]
      simp [joinB]
set_option maxHeartbeats 8000000 in
theorem written_any (n c : Nat) (A : Option Addr) (l : List St) (w : World) (hl : Vec shSt w A n l) (hn : n ≤ 200) (ho : allB l = true) :
    Calls Tryz.prog 18 #[.slice A n c] w fun e w' => e = .returned (.string ⟨(textL l).toArray⟩) ∧ Ext w w' := by
  have HX := Lib.hid hl
  have HO := Lib.hid ho
  have HL := Lib.hid hl.1
  clear hl ho
  go_enter Tryz.func18, Tryz.ntmps18
  go_wp2_with fail
  go_loopw [3, 4] (fun u i wr => ∃ (S : List UInt8) (k : Nat) (ws : List (List UInt8)), u = .string ⟨S.toArray⟩ ∧ i = .int .i64 k ∧ k ≤ n ∧ S.length ≤ 200 * k ∧ Hid (S = joinB 32 ws) ∧ Hid (k = 0 ↔ ws = []) ∧ Hid (Ext w wr) ∧ Hid (ws ++ (grp (l.drop k)).map wordG = (grp l).map wordG)) (fun _ i _ => n - (intOf i).toNat)
  case atStart => exact ⟨[], 0, [], rfl, rfl, Nat.zero_le _, Nat.zero_le _, Lib.hid rfl, Lib.hid (by simp), Lib.hid (Ext.refl _), Lib.hid (by simp)⟩
  case round =>
    obtain ⟨S, k, ws, rfl, rfl, hk, hsl, HS, HW, HE, HT⟩ := hrel
    by_cases hlt : k < n
    · obtain ⟨b, off, rfl, hb1, hc⟩ := Sts.all (Vec.ext HX.out HE.out) (by omega)
      have HC := Lib.hid hc
      obtain ⟨c1, c2, c3, c4⟩ := hc k hlt
      have hok := allB_at HO.out (k := k) (by rw [HL.out]; omega)
      obtain ⟨s, hs⟩ : ∃ s, l.getD k st0 = s := ⟨_, rfl⟩
      rw [hs] at c1 c2 c3 c4 hok
      have HS0 := Lib.hid hs
      clear hs hc
      obtain ⟨sk, sp, sa, sb⟩ := s
      simp only at c1 c2 c3 c4
      have q0 : (0 : Int) ≤ (k : Int) := by omega
      have q1 : (k : Int) < (n : Int) := by omega
      obtain ⟨T, hT⟩ : ∃ T, wordT ⟨sk, sp, sa, sb⟩ = T := ⟨_, rfl⟩
      have HWC := Lib.hid (show ∀ w', Calls Tryz.prog 35 #[.agg #[.int .u8 sk, .bool sp, .int .i64 sa, .int .i64 sb]] w' fun e w'' => e = .returned (.string ⟨T.toArray⟩) ∧ Ext w' w'' from fun w' => by
        have h9 := one_any ⟨sk, sp, sa, sb⟩ hok w'
        rw [hT] at h9
        exact h9)
      have tl : T.length ≤ 100 := by
        have h9 := wordG_len (x := (⟨sk, sp, sa, sb⟩, 1)) hok
        rw [← hT]
        simpa [wordG] using h9
      have HTG1 := Lib.hid (show wordG (⟨sk, sp, sa, sb⟩, 1) = T by rw [← hT]; simp [wordG])
      have HTT := Lib.hid hT
      clear hT
      by_cases hk0 : k = 0
      · have hws : ws = [] := HW.out.1 hk0
        subst hk0
        simp only [Nat.zero_mul, Nat.add_zero] at c1 c2 c3 c4
        obtain ⟨G, hG⟩ : ∃ G, S ++ T = G := ⟨_, rfl⟩
        have hcat : (⟨S.toArray⟩ ++ ⟨T.toArray⟩ : ByteArray) = ⟨G.toArray⟩ := by rw [← hG]; exact str_app S T
        have HJ := Lib.hid (show ∀ x, joinB 32 (ws ++ [T ++ x]) = G ++ x from fun x => by rw [join_snoc, if_pos hws, ← hG, HS.out, hws]; rfl)
        have hgl : G.length ≤ 200 * 0 + 101 := by rw [← hG, List.length_append]; omega
        clear hG hws
        go_wp2_with (go_at_call 35; go_loud (((with_reducible refine (HWC.out _).mono ?_); rintro e w2 ⟨rfl, hq2⟩; have HE2 := Lib.hid hq2; clear hq2)))
        have HEW := Lib.hid (HE.out.trans HE2.out)
        go_loopw [4, 5] (fun i q wi => ∃ (j m : Nat), i = .int .i64 j ∧ q = .int .i64 m ∧ 1 ≤ m ∧ j + 1 = 0 + m ∧ 0 + m ≤ n ∧ Hid (m = 1 ∨ sk = 1) ∧ Hid (∀ t, t < m → l.getD (0 + t) st0 = ⟨sk, sp, sa, sb⟩) ∧ wi.heap = w2.heap ∧ Hid (Ext w2 wi)) (fun _ q _ => n - 0 - (intOf q).toNat)
        case atStart => exact ⟨0, 1, rfl, rfl, Nat.le_refl _, rfl, by omega, Lib.hid (.inl rfl), Lib.hid (fun t ht => (by obtain rfl : t = 0 := (by omega); exact HS0.out)), rfl, Lib.hid (Ext.refl _)⟩
        case round =>
          obtain ⟨j, m, rfl, rfl, hm1, hjm, hm2, hm3, HA, hheap, HE3⟩ := hrel
          have HE4 := Lib.hid (HE2.out.trans HE3.out)
          have HE5 := Lib.hid (HEW.out.trans HE3.out)
          have hx : l.getD j st0 = ⟨sk, sp, sa, sb⟩ := by
            have h9 := HA.out (m - 1) (by omega)
            rw [show 0 + (m - 1) = j by omega] at h9
            exact h9
          obtain ⟨d1, d2, d3, d4⟩ := HC.out j (by omega)
          rw [hx] at d1 d2 d3 d4
          clear hx
          simp only at d1 d2 d3 d4
          replace d1 := (Below.cell (p := ⟨b, _, none⟩) HE4.out hb1).trans d1
          replace d2 := (Below.cell (p := ⟨b, _, none⟩) HE4.out hb1).trans d2
          replace d3 := (Below.cell (p := ⟨b, _, none⟩) HE4.out hb1).trans d3
          replace d4 := (Below.cell (p := ⟨b, _, none⟩) HE4.out hb1).trans d4
          have p0 : (0 : Int) ≤ (j : Int) := by omega
          have p1 : (j : Int) < (n : Int) := by omega
          obtain ⟨j2, hj2⟩ : ∃ j2, j2 = j + 1 := ⟨_, rfl⟩
          have i1 : IntKind.i64.wrap ((j : Int) + 1) = (j2 : Int) := by rw [IntWalk.i64_in ((j : Int) + 1) ⟨by omega, by omega⟩]; omega
          rw [← hj2] at hjm
          have HJ2 := Lib.hid hj2
          have HJM := Lib.hid hjm
          clear hj2 hjm
          have i2 := IntWalk.i64_in ((m : Int) + 1) ⟨by omega, by omega⟩
          by_cases hk1 : sk = 1
          · by_cases hkm : j2 < n
            · obtain ⟨e1, e2, e3, e4⟩ := HC.out j2 hkm
              replace e1 := (Below.cell (p := ⟨b, _, none⟩) HE4.out hb1).trans e1
              replace e2 := (Below.cell (p := ⟨b, _, none⟩) HE4.out hb1).trans e2
              replace e3 := (Below.cell (p := ⟨b, _, none⟩) HE4.out hb1).trans e3
              replace e4 := (Below.cell (p := ⟨b, _, none⟩) HE4.out hb1).trans e4
              have q2 : (0 : Int) ≤ (j2 : Int) := by omega
              have q3 : (j2 : Int) < (n : Int) := by omega
              by_cases hxy : l.getD j2 st0 = ⟨sk, sp, sa, sb⟩
              · rw [hxy] at e1 e2 e3 e4
                simp only at e1 e2 e3 e4
                have HA2 := Lib.hid (show ∀ t, t < m + 1 → l.getD (0 + t) st0 = ⟨sk, sp, sa, sb⟩ from fun t ht => by
                  by_cases e : t = m
                  · subst e; rw [← HJM.out]; exact hxy
                  · exact HA.out t (by omega))
                clear hxy
                subst hk1
                go_wp2_with fail
                go_quiet (fail)
                go_wp2
                go_roundw
                case rel => exact ⟨j2, m + 1, by go_num, by go_num, by omega, by have := HJM.out; omega, by have := HJM.out; omega, Lib.hid (by first | exact .inr rfl | exact .inr trivial), HA2, hheap, Lib.hid (Ext.drewN HE3.out _)⟩
                case measure => have hjm := HJM.out; simp [intOf] <;> omega
              · generalize hy : l.getD j2 st0 = y at *
                obtain ⟨y1, y2, y3, y4⟩ := y
                simp only at e1 e2 e3 e4
                have hne := run_st_eq (fun e => hxy e)
                have HNE := Lib.hid hxy
                clear hxy
                subst hk1
                have HQ := Lib.hid (show grp (l.drop 0) = (⟨1, sp, sa, sb⟩, m) :: grp (l.drop (0 + m)) by
                  have h9 := grp_run m (l.drop 0) ⟨1, sp, sa, sb⟩ hm1 (by rw [List.length_drop, HL.out]; omega) (fun t ht => by rw [← HA.out t ht]; simp [List.getD_eq_getElem?_getD]) (.inr rfl) (.inr (.inr (by have h8 : (l.drop 0).getD m st0 = ⟨y1, y2, y3, y4⟩ := (by rw [← hy, HJM.out]; simp [List.getD_eq_getElem?_getD]); rw [h8]; exact HNE.out)))
                  rw [h9, List.drop_drop])
                by_cases hm : m = 1
                · subst hm
                  have HF := Lib.hid (show (ws ++ [T]) ++ (grp (l.drop (0 + 1))).map wordG = (grp l).map wordG by
                    rw [← HT.out, HQ.out, ← HTG1.out]
                    simp)
                  have HJK := Lib.hid (show j2 = 0 + 1 by have := HJM.out; omega)
                  go_wp2_with fail
                  go_quiet (fail)
                  go_wp2_with fail
                  go_roundw
                  case rel => exact ⟨G, 0 + 1, ws ++ [T], rfl, by have := HJK.out; subst this; go_num, by omega, by omega, Lib.hid (by have := HJ.out []; rw [List.append_nil, List.append_nil] at this; exact this.symm), Lib.hid (by simp), Lib.hid (Ext.drewN HE5.out _), HF⟩
                  case measure => have hjm := HJM.out; simp [intOf] <;> omega
                · have hm9 : (1 : Int) < (m : Int) := by omega
                  obtain ⟨D, hD⟩ : ∃ D, decD m = D := ⟨_, rfl⟩
                  obtain ⟨G2, hG2⟩ : ∃ G2, G ++ D = G2 := ⟨_, rfl⟩
                  have HIC := Lib.hid (show ∀ w', Calls Tryz.prog 36 #[.int .i64 (m : Int)] w' fun e w'' => e = .returned (.string ⟨D.toArray⟩) ∧ Ext w' w'' from fun w' => by
                    have h9 := decimal_any m (by omega) w'
                    rw [hD] at h9
                    exact h9)
                  have hcat9 : (⟨G.toArray⟩ ++ ⟨D.toArray⟩ : ByteArray) = ⟨G2.toArray⟩ := by rw [← hG2]; exact str_app G D
                  have hTG : wordG (⟨1, sp, sa, sb⟩, m) = T ++ D := by rw [wordG, if_pos (by simp only; omega), HTT.out, hD]
                  have HTG := Lib.hid hTG
                  have dl : D.length ≤ 20 := by rw [← hD]; exact dec_len m
                  have g2l : G2.length ≤ 200 * 0 + 121 := by rw [← hG2, List.length_append]; omega
                  have HG2 := Lib.hid hG2
                  clear hD hG2 hTG
                  have HF := Lib.hid (show (ws ++ [T ++ D]) ++ (grp (l.drop (0 + m))).map wordG = (grp l).map wordG by
                    rw [← HT.out, HQ.out, List.map_cons, HTG.out]
                    simp)
                  go_wp2_with fail
                  go_quiet (fail)
                  go_wp2_with (go_at_call 36; go_loud (((with_reducible refine (HIC.out _).mono ?_); rintro e w7 ⟨rfl, hq7⟩; have HE7 := Lib.hid (HE5.out.trans (Ext.trans (by repeat (first | exact Ext.refl _ | refine Ext.drew ?_ | refine Ext.drewN ?_ _ | refine Ext.alloc ?_ _)) hq7)); clear hq7)))
                  go_roundw
                  case rel => exact ⟨G2, 0 + m, ws ++ [T ++ D], rfl, by rw [← HJM.out], by omega, by omega, Lib.hid (by rw [← HG2.out]; exact (HJ.out D).symm), Lib.hid (by simp <;> omega), HE7, HF⟩
                  case measure => have hjm := HJM.out; simp [intOf] <;> omega
            · have hkm2 : ¬ ((j2 : Int) < (n : Int)) := by omega
              subst hk1
              have HQ := Lib.hid (show grp (l.drop 0) = (⟨1, sp, sa, sb⟩, m) :: grp (l.drop (0 + m)) by
                have h9 := grp_run m (l.drop 0) ⟨1, sp, sa, sb⟩ hm1 (by rw [List.length_drop, HL.out]; omega) (fun t ht => by rw [← HA.out t ht]; simp [List.getD_eq_getElem?_getD]) (.inr rfl) (.inr (.inl (by have := HJM.out; rw [List.length_drop, HL.out]; omega)))
                rw [h9, List.drop_drop])
              by_cases hm : m = 1
              · subst hm
                have HF := Lib.hid (show (ws ++ [T]) ++ (grp (l.drop (0 + 1))).map wordG = (grp l).map wordG by
                  rw [← HT.out, HQ.out, ← HTG1.out]
                  simp)
                have HJK := Lib.hid (show j2 = 0 + 1 by have := HJM.out; omega)
                go_wp2_with fail
                go_quiet (fail)
                go_wp2_with fail
                go_roundw
                case rel => exact ⟨G, 0 + 1, ws ++ [T], rfl, by have := HJK.out; subst this; go_num, by omega, by omega, Lib.hid (by have := HJ.out []; rw [List.append_nil, List.append_nil] at this; exact this.symm), Lib.hid (by simp), Lib.hid (Ext.drewN HE5.out _), HF⟩
                case measure => have hjm := HJM.out; simp [intOf] <;> omega
              · have hm9 : (1 : Int) < (m : Int) := by omega
                obtain ⟨D, hD⟩ : ∃ D, decD m = D := ⟨_, rfl⟩
                obtain ⟨G2, hG2⟩ : ∃ G2, G ++ D = G2 := ⟨_, rfl⟩
                have HIC := Lib.hid (show ∀ w', Calls Tryz.prog 36 #[.int .i64 (m : Int)] w' fun e w'' => e = .returned (.string ⟨D.toArray⟩) ∧ Ext w' w'' from fun w' => by
                  have h9 := decimal_any m (by omega) w'
                  rw [hD] at h9
                  exact h9)
                have hcat9 : (⟨G.toArray⟩ ++ ⟨D.toArray⟩ : ByteArray) = ⟨G2.toArray⟩ := by rw [← hG2]; exact str_app G D
                have hTG : wordG (⟨1, sp, sa, sb⟩, m) = T ++ D := by rw [wordG, if_pos (by simp only; omega), HTT.out, hD]
                have HTG := Lib.hid hTG
                have dl : D.length ≤ 20 := by rw [← hD]; exact dec_len m
                have g2l : G2.length ≤ 200 * 0 + 121 := by rw [← hG2, List.length_append]; omega
                have HG2 := Lib.hid hG2
                clear hD hG2 hTG
                have HF := Lib.hid (show (ws ++ [T ++ D]) ++ (grp (l.drop (0 + m))).map wordG = (grp l).map wordG by
                  rw [← HT.out, HQ.out, List.map_cons, HTG.out]
                  simp)
                go_wp2_with fail
                go_quiet (fail)
                go_wp2_with (go_at_call 36; go_loud (((with_reducible refine (HIC.out _).mono ?_); rintro e w7 ⟨rfl, hq7⟩; have HE7 := Lib.hid (HE5.out.trans (Ext.trans (by repeat (first | exact Ext.refl _ | refine Ext.drew ?_ | refine Ext.drewN ?_ _ | refine Ext.alloc ?_ _)) hq7)); clear hq7)))
                go_roundw
                case rel => exact ⟨G2, 0 + m, ws ++ [T ++ D], rfl, by rw [← HJM.out], by omega, by omega, Lib.hid (by rw [← HG2.out]; exact (HJ.out D).symm), Lib.hid (by simp <;> omega), HE7, HF⟩
                case measure => have hjm := HJM.out; simp [intOf] <;> omega
          · have hk2 : (sk == 1) = false := by simpa using hk1
            have HK := Lib.hid hk1
            obtain rfl : m = 1 := by rcases hm3.out with h | h
                                     · exact h
                                     · exact absurd h hk1
            clear hk1
            have HQ := Lib.hid (show grp (l.drop 0) = (⟨sk, sp, sa, sb⟩, 1) :: grp (l.drop (0 + 1)) by
              have h9 := grp_run 1 (l.drop 0) ⟨sk, sp, sa, sb⟩ hm1 (by rw [List.length_drop, HL.out]; omega) (fun t ht => by rw [← HA.out t ht]; simp [List.getD_eq_getElem?_getD]) (.inl rfl) (.inl HK.out)
              rw [h9, List.drop_drop])
            have HF := Lib.hid (show (ws ++ [T]) ++ (grp (l.drop (0 + 1))).map wordG = (grp l).map wordG by
              rw [← HT.out, HQ.out, ← HTG1.out]
              simp)
            have HJK := Lib.hid (show j2 = 0 + 1 by have := HJM.out; omega)
            go_wp2_with fail
            go_quiet (fail)
            go_wp2_with fail
            go_roundw
            case rel => exact ⟨G, 0 + 1, ws ++ [T], rfl, by have := HJK.out; subst this; go_num, by omega, by omega, Lib.hid (by have := HJ.out []; rw [List.append_nil, List.append_nil] at this; exact this.symm), Lib.hid (by simp), Lib.hid (Ext.drewN HE5.out _), HF⟩
            case measure => have hjm := HJM.out; simp [intOf] <;> omega
      · have hws : ¬ ws = [] := fun h => hk0 (HW.out.2 h)
        obtain ⟨S1, hS1⟩ : ∃ S1, S ++ [32] = S1 := ⟨_, rfl⟩
        obtain ⟨G, hG⟩ : ∃ G, S1 ++ T = G := ⟨_, rfl⟩
        have hcat1 : (⟨S.toArray⟩ ++ ⟨#[32]⟩ : ByteArray) = ⟨S1.toArray⟩ := by rw [← hS1]; exact str_app S [32]
        have hcat : (⟨S1.toArray⟩ ++ ⟨T.toArray⟩ : ByteArray) = ⟨G.toArray⟩ := by rw [← hG]; exact str_app S1 T
        have hs1l : S1.length ≤ 200 * k + 1 := by rw [← hS1, List.length_append]; simp; omega
        have HJ := Lib.hid (show ∀ x, joinB 32 (ws ++ [T ++ x]) = G ++ x from fun x => by rw [join_snoc, if_neg hws, ← hG, ← hS1, HS.out]; simp)
        have hgl : G.length ≤ 200 * k + 101 := by rw [← hG, List.length_append]; omega
        have q9 : (0 : Int) < (k : Int) := by omega
        clear hG hws hS1
        go_wp2_with (go_at_call 35; go_loud (((with_reducible refine (HWC.out _).mono ?_); rintro e w2 ⟨rfl, hq2⟩; have HE2 := Lib.hid hq2; clear hq2)))
        have HEW := Lib.hid (HE.out.trans HE2.out)
        go_loopw [4, 5] (fun i q wi => ∃ (j m : Nat), i = .int .i64 j ∧ q = .int .i64 m ∧ 1 ≤ m ∧ j + 1 = k + m ∧ k + m ≤ n ∧ Hid (m = 1 ∨ sk = 1) ∧ Hid (∀ t, t < m → l.getD (k + t) st0 = ⟨sk, sp, sa, sb⟩) ∧ wi.heap = w2.heap ∧ Hid (Ext w2 wi)) (fun _ q _ => n - k - (intOf q).toNat)
        case atStart => exact ⟨k, 1, rfl, rfl, Nat.le_refl _, rfl, by omega, Lib.hid (.inl rfl), Lib.hid (fun t ht => (by obtain rfl : t = 0 := (by omega); exact HS0.out)), rfl, Lib.hid (Ext.refl _)⟩
        case round =>
          obtain ⟨j, m, rfl, rfl, hm1, hjm, hm2, hm3, HA, hheap, HE3⟩ := hrel
          have HE4 := Lib.hid (HE2.out.trans HE3.out)
          have HE5 := Lib.hid (HEW.out.trans HE3.out)
          have hx : l.getD j st0 = ⟨sk, sp, sa, sb⟩ := by
            have h9 := HA.out (m - 1) (by omega)
            rw [show k + (m - 1) = j by omega] at h9
            exact h9
          obtain ⟨d1, d2, d3, d4⟩ := HC.out j (by omega)
          rw [hx] at d1 d2 d3 d4
          clear hx
          simp only at d1 d2 d3 d4
          replace d1 := (Below.cell (p := ⟨b, _, none⟩) HE4.out hb1).trans d1
          replace d2 := (Below.cell (p := ⟨b, _, none⟩) HE4.out hb1).trans d2
          replace d3 := (Below.cell (p := ⟨b, _, none⟩) HE4.out hb1).trans d3
          replace d4 := (Below.cell (p := ⟨b, _, none⟩) HE4.out hb1).trans d4
          have p0 : (0 : Int) ≤ (j : Int) := by omega
          have p1 : (j : Int) < (n : Int) := by omega
          obtain ⟨j2, hj2⟩ : ∃ j2, j2 = j + 1 := ⟨_, rfl⟩
          have i1 : IntKind.i64.wrap ((j : Int) + 1) = (j2 : Int) := by rw [IntWalk.i64_in ((j : Int) + 1) ⟨by omega, by omega⟩]; omega
          rw [← hj2] at hjm
          have HJ2 := Lib.hid hj2
          have HJM := Lib.hid hjm
          clear hj2 hjm
          have i2 := IntWalk.i64_in ((m : Int) + 1) ⟨by omega, by omega⟩
          by_cases hk1 : sk = 1
          · by_cases hkm : j2 < n
            · obtain ⟨e1, e2, e3, e4⟩ := HC.out j2 hkm
              replace e1 := (Below.cell (p := ⟨b, _, none⟩) HE4.out hb1).trans e1
              replace e2 := (Below.cell (p := ⟨b, _, none⟩) HE4.out hb1).trans e2
              replace e3 := (Below.cell (p := ⟨b, _, none⟩) HE4.out hb1).trans e3
              replace e4 := (Below.cell (p := ⟨b, _, none⟩) HE4.out hb1).trans e4
              have q2 : (0 : Int) ≤ (j2 : Int) := by omega
              have q3 : (j2 : Int) < (n : Int) := by omega
              by_cases hxy : l.getD j2 st0 = ⟨sk, sp, sa, sb⟩
              · rw [hxy] at e1 e2 e3 e4
                simp only at e1 e2 e3 e4
                have HA2 := Lib.hid (show ∀ t, t < m + 1 → l.getD (k + t) st0 = ⟨sk, sp, sa, sb⟩ from fun t ht => by
                  by_cases e : t = m
                  · subst e; rw [← HJM.out]; exact hxy
                  · exact HA.out t (by omega))
                clear hxy
                subst hk1
                go_wp2_with fail
                go_quiet (fail)
                go_wp2
                go_roundw
                case rel => exact ⟨j2, m + 1, by go_num, by go_num, by omega, by have := HJM.out; omega, by have := HJM.out; omega, Lib.hid (by first | exact .inr rfl | exact .inr trivial), HA2, hheap, Lib.hid (Ext.drewN HE3.out _)⟩
                case measure => have hjm := HJM.out; simp [intOf] <;> omega
              · generalize hy : l.getD j2 st0 = y at *
                obtain ⟨y1, y2, y3, y4⟩ := y
                simp only at e1 e2 e3 e4
                have hne := run_st_eq (fun e => hxy e)
                have HNE := Lib.hid hxy
                clear hxy
                subst hk1
                have HQ := Lib.hid (show grp (l.drop k) = (⟨1, sp, sa, sb⟩, m) :: grp (l.drop (k + m)) by
                  have h9 := grp_run m (l.drop k) ⟨1, sp, sa, sb⟩ hm1 (by rw [List.length_drop, HL.out]; omega) (fun t ht => by rw [← HA.out t ht]; simp [List.getD_eq_getElem?_getD]) (.inr rfl) (.inr (.inr (by have h8 : (l.drop k).getD m st0 = ⟨y1, y2, y3, y4⟩ := (by rw [← hy, HJM.out]; simp [List.getD_eq_getElem?_getD]); rw [h8]; exact HNE.out)))
                  rw [h9, List.drop_drop])
                by_cases hm : m = 1
                · subst hm
                  have HF := Lib.hid (show (ws ++ [T]) ++ (grp (l.drop (k + 1))).map wordG = (grp l).map wordG by
                    rw [← HT.out, HQ.out, ← HTG1.out]
                    simp)
                  have HJK := Lib.hid (show j2 = k + 1 by have := HJM.out; omega)
                  go_wp2_with fail
                  go_quiet (fail)
                  go_wp2_with fail
                  go_roundw
                  case rel => exact ⟨G, k + 1, ws ++ [T], rfl, by have := HJK.out; subst this; go_num, by omega, by omega, Lib.hid (by have := HJ.out []; rw [List.append_nil, List.append_nil] at this; exact this.symm), Lib.hid (by simp), Lib.hid (Ext.drewN HE5.out _), HF⟩
                  case measure => have hjm := HJM.out; simp [intOf] <;> omega
                · have hm9 : (1 : Int) < (m : Int) := by omega
                  obtain ⟨D, hD⟩ : ∃ D, decD m = D := ⟨_, rfl⟩
                  obtain ⟨G2, hG2⟩ : ∃ G2, G ++ D = G2 := ⟨_, rfl⟩
                  have HIC := Lib.hid (show ∀ w', Calls Tryz.prog 36 #[.int .i64 (m : Int)] w' fun e w'' => e = .returned (.string ⟨D.toArray⟩) ∧ Ext w' w'' from fun w' => by
                    have h9 := decimal_any m (by omega) w'
                    rw [hD] at h9
                    exact h9)
                  have hcat9 : (⟨G.toArray⟩ ++ ⟨D.toArray⟩ : ByteArray) = ⟨G2.toArray⟩ := by rw [← hG2]; exact str_app G D
                  have hTG : wordG (⟨1, sp, sa, sb⟩, m) = T ++ D := by rw [wordG, if_pos (by simp only; omega), HTT.out, hD]
                  have HTG := Lib.hid hTG
                  have dl : D.length ≤ 20 := by rw [← hD]; exact dec_len m
                  have g2l : G2.length ≤ 200 * k + 121 := by rw [← hG2, List.length_append]; omega
                  have HG2 := Lib.hid hG2
                  clear hD hG2 hTG
                  have HF := Lib.hid (show (ws ++ [T ++ D]) ++ (grp (l.drop (k + m))).map wordG = (grp l).map wordG by
                    rw [← HT.out, HQ.out, List.map_cons, HTG.out]
                    simp)
                  go_wp2_with fail
                  go_quiet (fail)
                  go_wp2_with (go_at_call 36; go_loud (((with_reducible refine (HIC.out _).mono ?_); rintro e w7 ⟨rfl, hq7⟩; have HE7 := Lib.hid (HE5.out.trans (Ext.trans (by repeat (first | exact Ext.refl _ | refine Ext.drew ?_ | refine Ext.drewN ?_ _ | refine Ext.alloc ?_ _)) hq7)); clear hq7)))
                  go_roundw
                  case rel => exact ⟨G2, k + m, ws ++ [T ++ D], rfl, by rw [← HJM.out], by omega, by omega, Lib.hid (by rw [← HG2.out]; exact (HJ.out D).symm), Lib.hid (by simp <;> omega), HE7, HF⟩
                  case measure => have hjm := HJM.out; simp [intOf] <;> omega
            · have hkm2 : ¬ ((j2 : Int) < (n : Int)) := by omega
              subst hk1
              have HQ := Lib.hid (show grp (l.drop k) = (⟨1, sp, sa, sb⟩, m) :: grp (l.drop (k + m)) by
                have h9 := grp_run m (l.drop k) ⟨1, sp, sa, sb⟩ hm1 (by rw [List.length_drop, HL.out]; omega) (fun t ht => by rw [← HA.out t ht]; simp [List.getD_eq_getElem?_getD]) (.inr rfl) (.inr (.inl (by have := HJM.out; rw [List.length_drop, HL.out]; omega)))
                rw [h9, List.drop_drop])
              by_cases hm : m = 1
              · subst hm
                have HF := Lib.hid (show (ws ++ [T]) ++ (grp (l.drop (k + 1))).map wordG = (grp l).map wordG by
                  rw [← HT.out, HQ.out, ← HTG1.out]
                  simp)
                have HJK := Lib.hid (show j2 = k + 1 by have := HJM.out; omega)
                go_wp2_with fail
                go_quiet (fail)
                go_wp2_with fail
                go_roundw
                case rel => exact ⟨G, k + 1, ws ++ [T], rfl, by have := HJK.out; subst this; go_num, by omega, by omega, Lib.hid (by have := HJ.out []; rw [List.append_nil, List.append_nil] at this; exact this.symm), Lib.hid (by simp), Lib.hid (Ext.drewN HE5.out _), HF⟩
                case measure => have hjm := HJM.out; simp [intOf] <;> omega
              · have hm9 : (1 : Int) < (m : Int) := by omega
                obtain ⟨D, hD⟩ : ∃ D, decD m = D := ⟨_, rfl⟩
                obtain ⟨G2, hG2⟩ : ∃ G2, G ++ D = G2 := ⟨_, rfl⟩
                have HIC := Lib.hid (show ∀ w', Calls Tryz.prog 36 #[.int .i64 (m : Int)] w' fun e w'' => e = .returned (.string ⟨D.toArray⟩) ∧ Ext w' w'' from fun w' => by
                  have h9 := decimal_any m (by omega) w'
                  rw [hD] at h9
                  exact h9)
                have hcat9 : (⟨G.toArray⟩ ++ ⟨D.toArray⟩ : ByteArray) = ⟨G2.toArray⟩ := by rw [← hG2]; exact str_app G D
                have hTG : wordG (⟨1, sp, sa, sb⟩, m) = T ++ D := by rw [wordG, if_pos (by simp only; omega), HTT.out, hD]
                have HTG := Lib.hid hTG
                have dl : D.length ≤ 20 := by rw [← hD]; exact dec_len m
                have g2l : G2.length ≤ 200 * k + 121 := by rw [← hG2, List.length_append]; omega
                have HG2 := Lib.hid hG2
                clear hD hG2 hTG
                have HF := Lib.hid (show (ws ++ [T ++ D]) ++ (grp (l.drop (k + m))).map wordG = (grp l).map wordG by
                  rw [← HT.out, HQ.out, List.map_cons, HTG.out]
                  simp)
                go_wp2_with fail
                go_quiet (fail)
                go_wp2_with (go_at_call 36; go_loud (((with_reducible refine (HIC.out _).mono ?_); rintro e w7 ⟨rfl, hq7⟩; have HE7 := Lib.hid (HE5.out.trans (Ext.trans (by repeat (first | exact Ext.refl _ | refine Ext.drew ?_ | refine Ext.drewN ?_ _ | refine Ext.alloc ?_ _)) hq7)); clear hq7)))
                go_roundw
                case rel => exact ⟨G2, k + m, ws ++ [T ++ D], rfl, by rw [← HJM.out], by omega, by omega, Lib.hid (by rw [← HG2.out]; exact (HJ.out D).symm), Lib.hid (by simp <;> omega), HE7, HF⟩
                case measure => have hjm := HJM.out; simp [intOf] <;> omega
          · have hk2 : (sk == 1) = false := by simpa using hk1
            have HK := Lib.hid hk1
            obtain rfl : m = 1 := by rcases hm3.out with h | h
                                     · exact h
                                     · exact absurd h hk1
            clear hk1
            have HQ := Lib.hid (show grp (l.drop k) = (⟨sk, sp, sa, sb⟩, 1) :: grp (l.drop (k + 1)) by
              have h9 := grp_run 1 (l.drop k) ⟨sk, sp, sa, sb⟩ hm1 (by rw [List.length_drop, HL.out]; omega) (fun t ht => by rw [← HA.out t ht]; simp [List.getD_eq_getElem?_getD]) (.inl rfl) (.inl HK.out)
              rw [h9, List.drop_drop])
            have HF := Lib.hid (show (ws ++ [T]) ++ (grp (l.drop (k + 1))).map wordG = (grp l).map wordG by
              rw [← HT.out, HQ.out, ← HTG1.out]
              simp)
            have HJK := Lib.hid (show j2 = k + 1 by have := HJM.out; omega)
            go_wp2_with fail
            go_quiet (fail)
            go_wp2_with fail
            go_roundw
            case rel => exact ⟨G, k + 1, ws ++ [T], rfl, by have := HJK.out; subst this; go_num, by omega, by omega, Lib.hid (by have := HJ.out []; rw [List.append_nil, List.append_nil] at this; exact this.symm), Lib.hid (by simp), Lib.hid (Ext.drewN HE5.out _), HF⟩
            case measure => have hjm := HJM.out; simp [intOf] <;> omega
    · obtain rfl : k = n := by omega
      have HV0 := Lib.hid (show ws = (grp l).map wordG by
        have h9 := HT.out
        rw [List.drop_of_length_le (Nat.le_of_eq HL.out)] at h9
        simpa [grp] using h9)
      have HS9 := Lib.hid (show S = textL l by rw [HS.out, HV0.out]; rfl)
      go_wp2_with fail
      go_ret
      exact ⟨by rw [HS9.out]; rfl, HE.out⟩
end Go.Proofs.YtpcefmopoceiiaaGreatDoor
