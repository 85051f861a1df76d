/- Stitches that are picked up are in rows of the edge, in order, as many in each row as in another one, up to one; the rate is in lowest terms, and as many stitches as it says are in so many rows; and the number of stitches that are needed is the nearest one; for any gauge and numbers. -/
import Derived.Test.YtepegahgiciegaaSeamG
import Derived.Deep.QuietTactic
import Derived.BigQuiet
import Derived.Test.YtepegahgiciegaaSeamD
import Derived.Test.YtepegahgiciegaaOpenInts
import Derived.Test.YtepegahgiciegaaOpenGauge
namespace Go.Proofs.Ytepegahgiciegaa
open Go.ChangeShapes Go.WideShapes Go.ChangeAt Go.RowKit Go.Joins

theorem pick_ok {r c : Nat} (h : edOk r c = true) (w : World) :
    Calls Try.prog 12 #[.int .i64 r, .int .i64 c] w fun e w' => ∃ A cap, e = .returned (.tuple #[.slice A c cap, .int .i64 0]) ∧ Ints w' A c ((List.range c).map (pickV r c)) ∧ Ext w w' := by
  have := pick_any r c w
  rwa [pickL, if_pos h, edB, if_pos h, Int.toNat_natCast, List.length_map, List.length_range] at this
theorem pick_bad {rows n : Int} (h : edOk rows n = false) (w : World) :
    Calls Try.prog 12 #[.int .i64 rows, .int .i64 n] w fun e w' => ∃ A cap, e = .returned (.tuple #[.slice A 0 cap, .int .i64 2]) ∧ Ext w w' := by
  refine (pick_any rows n w).mono fun e w' ⟨A, cap, h1, _, h3⟩ => ⟨A, cap, ?_, h3⟩
  have h4 : pickL rows n = [] := by rw [pickL, h]; rfl
  have h5 : edB rows n = 2 := by rw [edB, h]; rfl
  rw [h4, h5] at h1
  exact h1
theorem rate_bad {rows n : Int} (h : edOk rows n = false) (w : World) :
    Calls Try.prog 14 #[.int .i64 rows, .int .i64 n] w fun e w' => e = .returned (.tuple #[.int .i64 0, .int .i64 0, .int .i64 2]) ∧ Ext w w' := rate_c (by rw [rateG, h]; rfl) w
theorem rate_ok {r c α β : Nat} (h : edOk r c = true) (h1 : c / Nat.gcd r c = α) (h2 : r / Nat.gcd r c = β) (w : World) :
    Calls Try.prog 14 #[.int .i64 r, .int .i64 c] w fun e w' => e = .returned (.tuple #[.int .i64 α, .int .i64 β, .int .i64 0]) ∧ Ext w w' :=
  rate_c (by rw [rateG, if_pos h, gcdI, Int.toNat_natCast, Int.toNat_natCast, ← h1, ← h2, Int.natCast_ediv, Int.natCast_ediv]) w
theorem pick_get {r c k : Nat} (hk : k < c) : ((List.range c).map (pickV r c)).getD k 0 = pickV r c k := by
  simp [List.getD_eq_getElem?_getD, hk]
theorem cnt_most {r c : Nat} (hr : 1 ≤ r) (hc : 1 ≤ c) (hc2 : c ≤ 1000) : 0 ≤ lowL ((List.range r).map (cntV (pickV r c) c)) r ∧ highL ((List.range r).map (cntV (pickV r c) c)) r ≤ 1000 ∧ lowL ((List.range r).map (cntV (pickV r c) c)) r ≤ 1000 ∧ 0 ≤ highL ((List.range r).map (cntV (pickV r c) c)) r ∧
    highL ((List.range r).map (cntV (pickV r c) c)) r - lowL ((List.range r).map (cntV (pickV r c) c)) r ≤ 1 := by
  have hg : ∀ j, j < r → ((List.range r).map (cntV (pickV r c) c)).getD j 0 = cntV (pickV r c) c j := fun j hj => by simp [List.getD_eq_getElem?_getD, hj]
  have h1 := most_bd (l := (List.range r).map (cntV (pickV r c) c)) (lo := 2 * (c : Int) / (2 * (r : Int))) (hi := 2 * (c : Int) / (2 * (r : Int)) + 1) (by simp; omega) (fun j hj => by
    simp at hj
    rw [hg j hj]
    exact pick_cnt hr hc hj) r (by simp)
  have h2 := most_bd (l := (List.range r).map (cntV (pickV r c) c)) (lo := 0) (hi := 1000) (by simp; omega) (fun j hj => by
    simp at hj
    rw [hg j hj]
    have := cntV_bd (pickV r c) c j
    omega) r (by simp)
  omega
theorem need_16 {a b c d rows : Int} (h : gok a b c d = true) (hr : inR rows 1 1000 = true) (hm : 1000000 < near (rows * d * a) (c * b)) (w : World) :
    Calls Try.prog 10 #[.agg #[.int .i64 a, .int .i64 b, .int .i64 c, .int .i64 d], .int .i64 rows] w fun x w' => x = .returned (.tuple #[.int .i64 0, .int .i64 16]) ∧ Ext w w' := need_c (by rw [h, needG_range hr hm]) w
theorem need_8 {a b c d rows : Int} (h : gok a b c d = false) (w : World) :
    Calls Try.prog 10 #[.agg #[.int .i64 a, .int .i64 b, .int .i64 c, .int .i64 d], .int .i64 rows] w fun x w' => x = .returned (.tuple #[.int .i64 0, .int .i64 8]) ∧ Ext w w' := need_c (by rw [h, needG_bad]) w
theorem need_0 {a b c d rows : Int} (h : gok a b c d = true) (hr : inR rows 1 1000 = true) (hm : ¬ 1000000 < near (rows * d * a) (c * b)) (w : World) :
    Calls Try.prog 10 #[.agg #[.int .i64 a, .int .i64 b, .int .i64 c, .int .i64 d], .int .i64 rows] w fun x w' => x = .returned (.tuple #[.int .i64 (near (rows * d * a) (c * b)), .int .i64 0]) ∧ Ext w w' := need_c (by rw [h, needG_ok hr hm]) w
theorem gerr_0 {a b c d : Int} (h : gok a b c d = true) (w : World) : Calls Try.prog 28 #[.agg #[.int .i64 a, .int .i64 b, .int .i64 c, .int .i64 d]] w fun e w' => e = .returned (.int .i64 0) ∧ Ext w w' := by
  have := rcheck_any a b c d w
  rwa [gerr, h] at this
theorem near_nonneg {num den : Int} (hn : 0 ≤ num) (hd : 1 ≤ den) : 0 ≤ near num den := Int.ediv_nonneg (by omega) (by omega)

set_option maxRecDepth 100000 in
set_option maxHeartbeats 16000000 in
theorem seamRows_walk (ga gb gc gd rows n : Int) (w : World) :
    Calls Try.prog 9 #[.agg #[.int .i64 ga, .int .i64 gb, .int .i64 gc, .int .i64 gd], .int .i64 rows, .int .i64 n] w fun e w' => e = .returned (.bool true) ∧ Ext w w' := by
  cases h : edOk rows n
  · go_enter Try.func9, Try.ntmps9
    go_wp2_with (first | (go_at_call 26; ((with_reducible refine (alive_any _).mono ?_); rintro e w1 ⟨rfl, hq1⟩)) | (go_at_call 12; ((with_reducible refine (pick_bad h _).mono ?_); rintro e w2 ⟨A2, c2, rfl, hq2⟩)) | (go_at_call 14; ((with_reducible refine (rate_bad h _).mono ?_); rintro e w3 ⟨rfl, hq3⟩)))
    go_ret
    exact ⟨rfl, by repeat (first | exact Ext.refl _ | assumption | refine Ext.alloc ?_ _ | refine Ext.drew ?_ | refine Ext.drewN ?_ _ | refine Ext.trans ?_ (by assumption))⟩
  obtain ⟨r0, r1, c0, c1⟩ := edOk_e h
  obtain ⟨r, rfl⟩ := Int.eq_ofNat_of_zero_le (show 0 ≤ rows by omega)
  obtain ⟨c, rfl⟩ := Int.eq_ofNat_of_zero_le (show 0 ≤ n by omega)
  obtain ⟨f1, f2, f3, f4, f5, f6⟩ := rate_facts (r := r) (n := c) (by omega) (by omega)
  have hag := pick_again (r := r) (n := c) (by omega) (by omega)
  obtain ⟨v1, v2, v3, v4, v5⟩ := cnt_most (r := r) (c := c) (by omega) (by omega) (by omega)
  have HAG := Lib.hid hag
  have H := Lib.hid h
  have HR := Lib.hid (inR_t r0 r1)
  have m51 := run_zeros (P := Try.prog) 29 3 Try.underlying29 info_int r (by omega)
  have HM := Lib.hid (fun (cc : Nat) (A : Option Addr) (w : World) (hi : Ints w A r ((List.range r).map (cntV (pickV r c) c))) => most_any r cc A _ w hi (by omega) (by omega))
  clear h hag
  generalize hα : c / Nat.gcd r c = α at *
  generalize hβ : r / Nat.gcd r c = β at *
  generalize lowL ((List.range r).map (cntV (pickV r c) c)) r = lx at *
  generalize highL ((List.range r).map (cntV (pickV r c) c)) r = gx at *
  have Hα := Lib.hid hα
  have Hβ := Lib.hid hβ
  have F6 := Lib.hid f6
  have f3' : (α : Int) * r = (β : Int) * c := by exact_mod_cast f3
  obtain ⟨p0, p1⟩ := prod_bd (show 0 ≤ (α : Int) by omega) (show (α : Int) ≤ 1000 by omega) (show 0 ≤ (r : Int) by omega) r1
  obtain ⟨q0, q1⟩ := prod_bd (show 0 ≤ (β : Int) by omega) (show (β : Int) ≤ 1000 by omega) (show 0 ≤ (c : Int) by omega) c1
  have fb : ((α : Int) * r != (β : Int) * c) = false := by rw [bne_eq_false_iff_eq]; exact f3'
  clear f3 f3' f6 hα hβ
  go_enter Try.func9, Try.ntmps9
  go_wp2_with (first | (go_at_call 26; ((with_reducible refine (alive_any _).mono ?_); rintro e w1 ⟨rfl, hq1⟩)) | (go_at_call 12; ((with_reducible refine (pick_ok H.out _).mono ?_); rintro e w2 ⟨A2, c2, rfl, hi2, hq2⟩)) | (go_at_call 14; ((with_reducible refine (rate_ok H.out Hα.out Hβ.out _).mono ?_); rintro e w3 ⟨rfl, hq3⟩)))
  have HI := Lib.hid (show Ints w3 A2 c ((List.range c).map (pickV r c)) from Ints.ext hi2 hq3)
  have HE3 := Lib.hid (show Ext (w.alloc (.cells #[.int .i64 ga, .int .i64 gb, .int .i64 gc, .int .i64 gd] 23)) w3 by repeat (first | exact Ext.refl _ | assumption | refine Ext.alloc ?_ _ | refine Ext.drew ?_ | refine Ext.drewN ?_ _ | refine Ext.trans ?_ (by assumption)))
  clear hi2 hq1 hq2 hq3 fb p0 p1 q0 q1
  go_loop [13] (fun i => ∃ d : Nat, 2 ≤ d ∧ d ≤ 1002 ∧ i = .int .i64 d) (fun i => 1002 - (intOf i).toNat)
  case atStart => exact ⟨2, by omega, by omega, rfl⟩
  case round =>
    obtain ⟨d, hd, hd2, rfl⟩ := hrel
    by_cases hab : d ≤ α ∧ d ≤ β
    · obtain ⟨h1, h2⟩ := hab
      have hno := F6.out d hd
      by_cases hm : α % d = 0
      · have hm2 : ¬ β % d = 0 := fun h => hno ⟨hm, h⟩
        have b1 : (((α % d : Nat) : Int) == 0) = true := by simp [hm]
        have b2 : (((β % d : Nat) : Int) == 0) = false := by rw [beq_eq_false_iff_ne]; omega
        clear hno hm hm2
        rw [Int.natCast_emod] at b1 b2
        go_wp2
        go_round
        case rel => exact ⟨d + 1, by omega, by omega, by go_num⟩
        case measure => simp [intOf]; omega
      · have b1 : (((α % d : Nat) : Int) == 0) = false := by rw [beq_eq_false_iff_ne]; omega
        clear hno hm
        rw [Int.natCast_emod] at b1
        go_wp2
        go_round
        case rel => exact ⟨d + 1, by omega, by omega, by go_num⟩
        case measure => simp [intOf]; omega
    · have hab' : α < d ∨ (d ≤ α ∧ β < d) := by omega
      clear hab
      rcases hab' with hab | ⟨hab, hab2⟩
      all_goals
        go_wp2_with fail
        clear m51
        have HZ := Lib.hid (show RowV (w3.alloc (.cells (zeroRow r) 3)) w3.heap.size r (fun j => .int .i64 (cntV (pickV r c) 0 j)) from (RowV.zeros _ _ _).congr (fun j _ => by simp [cntV]))
        have HE4 := Lib.hid (HE3.out.alloc (.cells (zeroRow r) 3))
        have HS3 := Lib.hid (Below.size HE3.out)
        go_loopw [15] (fun i wr => ∃ k : Nat, k ≤ c ∧ i = .int .i64 k ∧ Hid (RowV wr w3.heap.size r (fun j => .int .i64 (cntV (pickV r c) k j))) ∧ Hid (Ext w3 wr)) (fun i _ => c - (intOf i).toNat)
        case atStart => exact ⟨0, by omega, rfl, HZ, (Ext.refl _).alloc _⟩
        case round =>
          obtain ⟨k, hk, rfl, hr1, hext⟩ := hrel
          clear HZ HE4
          by_cases hlt : k < c
          · obtain ⟨A1, o1, rfl, hb1, hc1⟩ := HI.out.2 (by omega)
            have d1 := (Below.cell (p := ⟨A1, o1 + k, none⟩) hext.out hb1).trans (hc1 k hlt)
            rw [pick_get hlt] at d1
            have hpb := pick_bd (r := (r : Int)) (n := (c : Int)) (i := k) (by omega) (by omega)
            obtain ⟨x0, x1, _⟩ := hpb
            have HC := Lib.hid (fun j => cntV_succ (pickV r c) k j)
            have hbd := fun j => cntV_bd (pickV r c) k j
            have q0 : (0 : Int) ≤ (k : Int) := by omega
            have q1 : (k : Int) < (c : Int) := by omega
            have hprev : ∀ k', k = k' + 1 → wr.cell? ⟨A1, o1 + k', none⟩ = some (.int .i64 (pickV r c k')) ∧ pickV r c k' ≤ pickV r c k := fun k' e => by
              subst e
              have := (Below.cell (p := ⟨A1, o1 + k', none⟩) hext.out hb1).trans (hc1 k' (by omega))
              rw [pick_get (by omega)] at this
              exact ⟨this, (pick_bd (r := (r : Int)) (n := (c : Int)) (i := k') (by omega) (by omega)).2.2⟩
            have HPR := Lib.hid hprev
            clear hprev hc1
            generalize pickV r c k = x at *
            obtain ⟨x, rfl⟩ := Int.eq_ofNat_of_zero_le x0
            have hx : x < r := by omega
            have cA := hr1.out.at_ hx
            have fA := hr1.out.free hx
            have zA := hr1.out.lt
            obtain ⟨bd1, bd2⟩ := hbd x
            have R3 := Lib.hid ((hr1.out.set hx (.int .i64 (cntV (pickV r c) k x + 1))).congr (f' := fun j => .int .i64 (cntV (pickV r c) (k + 1) j)) (fun j _ => by
              rw [HC.out]
              by_cases e : j = x
              · subst e; simp
              · rw [if_neg e, if_neg (by omega)]; simp))
            have HXT := Lib.hid hext.out
            have e1 : decide ((x : Int) < 0) = false := by simp
            have e2 : decide ((r : Int) ≤ (x : Int)) = false := by simp; omega
            have e2' : decide (r ≤ x) = false := by simp; omega
            clear hbd hr1 hext
            cases k with
            | zero =>
              rw [Nat.add_zero] at d1
              have q2 : (0 : Int) < (c : Int) := by omega
              go_wp2_with fail
              go_quiet (fail)
              go_wp2
              go_roundw
              case rel => exact ⟨0 + 1, by omega, by go_num, R3, Below.setCell (Ext.drewN HXT.out _) (Nat.le_refl _) _⟩
              case measure => simp [intOf]; omega
            | succ k =>
              obtain ⟨d2, hle⟩ := HPR.out k rfl
              have hy0 := (pick_bd (r := (r : Int)) (n := (c : Int)) (i := k) (by omega) (by omega)).1
              generalize pickV r c k = y at *
              have q2 : (0 : Int) ≤ (k : Int) := by omega
              have q3 : (k : Int) < (c : Int) := by omega
              have q4 : (0 : Int) ≤ (k : Int) + 1 := by omega
              have q5 : (k : Int) + 1 < (c : Int) := by omega
              have q6 : ((k : Int) + 1).toNat = k + 1 := by omega
              have g1 := IntWalk.i64_in (k : Int) (by omega)
              have e3 : decide (0 < k + 1) = true := by simp
              have e4 : decide ((x : Int) < y) = false := by simp; omega
              go_wp2_with fail
              go_quiet (fail)
              go_wp2
              go_roundw
              case rel => exact ⟨k + 1 + 1, by omega, by go_num, R3, Below.setCell (Ext.drewN HXT.out _) (Nat.le_refl _) _⟩
              case measure => simp [intOf]; omega
          · obtain rfl : k = c := by omega
            have hi9 := Ints.of_row hr1.out
            have hE5 := Ext.trans HE3.out hext.out
            have HE5 := Lib.hid hE5
            have HX5 := Lib.hid hext.out
            clear hr1 hext hE5
            go_wp2_with (go_at_call 27; ((with_reducible refine (HM.out _ _ _ hi9).mono ?_); rintro e w6 ⟨rfl, hq6⟩))
            have HE6 := Lib.hid (HE5.out.trans hq6)
            have HX6 := Lib.hid (HX5.out.trans hq6)
            clear hq6 hi9
            go_loopw [18] (fun i wr => ∃ k2 : Nat, k2 ≤ k ∧ i = .int .i64 k2 ∧ Hid (Ext w6 wr)) (fun i _ => k - (intOf i).toNat)
            case atStart => exact ⟨0, by omega, rfl, Ext.refl _⟩
            case round =>
              obtain ⟨i, hi, rfl, hext⟩ := hrel
              have hx6 := hext.out
              by_cases hlt2 : i + α < k
              · obtain ⟨A1, o1, rfl, hb1, hc1⟩ := HI.out.2 (by omega)
                have hx7 := HX6.out.trans hx6
                have d1 := (Below.cell (p := ⟨A1, o1 + i, none⟩) hx7 hb1).trans (hc1 i (by omega))
                have d2 := (Below.cell (p := ⟨A1, o1 + (i + α), none⟩) hx7 hb1).trans (hc1 (i + α) hlt2)
                rw [pick_get (by omega)] at d1 d2
                rw [HAG.out] at d2
                have hpb := pick_bd (r := (r : Int)) (n := (k : Int)) (i := i) (by omega) (by omega)
                obtain ⟨x0, x1, _⟩ := hpb
                have q0 : (0 : Int) ≤ (i : Int) := by omega
                have q1 : (i : Int) < (k : Int) := by omega
                have q2 : (0 : Int) ≤ (i : Int) + (α : Int) := by omega
                have q3 : (i : Int) + (α : Int) < (k : Int) := by omega
                have q4 : ((i : Int) + (α : Int)).toNat = i + α := by omega
                generalize pickV r k i = x at *
                have g1 := IntWalk.i64_in ((i : Int) + (α : Int)) (by omega)
                have g2 := IntWalk.i64_in (x + (β : Int)) (by omega)
                clear hx7 hc1
                go_wp2_with fail
                go_quiet (fail)
                clear g1 g2 q4
                go_wp2
                go_roundw
                case rel => exact ⟨i + 1, by omega, by go_num, by repeat (first | exact Ext.refl _ | assumption | refine Ext.alloc ?_ _ | refine Ext.drew ?_ | refine Ext.drewN ?_ _ | refine Ext.trans ?_ (by assumption))⟩
                case measure => simp [intOf]; omega
              · have hE7 := HE6.out.trans hx6
                obtain ⟨hf1, hf2, hf3⟩ := hE7.facts
                cases hg : gok ga gb gc gd
                · have HG := Lib.hid hg
                  clear hg
                  go_wp2_with (go_at_call 10; ((with_reducible refine (need_8 HG.out _).mono ?_); rintro e w8 ⟨rfl, hq8⟩))
                  have hE8 := hE7.trans hq8
                  clear hf1 hf2 hf3
                  go_ret
                  exact ⟨rfl, by repeat (first | exact Ext.refl _ | assumption | refine Ext.alloc ?_ _ | refine Ext.drew ?_ | refine Ext.drewN ?_ _ | refine Ext.trans ?_ (by assumption))⟩
                · have HG := Lib.hid hg
                  obtain ⟨⟨s0, s1⟩, ⟨s2, s3⟩, ⟨s4, s5⟩, ⟨s6, s7⟩⟩ := gok_e hg
                  clear hg
                  by_cases hnr : 1000000 < near ((r : Int) * gd * ga) (gc * gb)
                  · have HN := Lib.hid hnr
                    clear hnr
                    go_wp2_with (go_at_call 10; ((with_reducible refine (need_16 HG.out HR.out HN.out _).mono ?_); rintro e w8 ⟨rfl, hq8⟩))
                    clear hf1 hf2 hf3
                    go_ret
                    exact ⟨rfl, by repeat (first | exact Ext.refl _ | assumption | refine Ext.alloc ?_ _ | refine Ext.drew ?_ | refine Ext.drewN ?_ _ | refine Ext.trans ?_ (by assumption))⟩
                  · have HN := Lib.hid hnr
                    obtain ⟨t0, t1⟩ := prod_bd (show 0 ≤ (r : Int) by omega) r1 (show 0 ≤ gd by omega) s7
                    obtain ⟨t2, t3⟩ := prod_bd t0 t1 (show 0 ≤ ga by omega) s1
                    obtain ⟨t4, t5⟩ := prod_bd (show 0 ≤ gc by omega) s5 (show 0 ≤ gb by omega) s3
                    have t6 : 1 ≤ gc * gb := Int.mul_pos (by omega) (by omega)
                    have t7 := near_nonneg (num := (r : Int) * gd * ga) (den := gc * gb) t2 t6
                    have hnn := need_near (num := (r : Int) * gd * ga) (den := gc * gb) t6
                    have hN0 := need_0 HG.out HR.out HN.out
                    generalize near ((r : Int) * gd * ga) (gc * gb) = m at *
                    obtain ⟨t8, t9⟩ := prod_bd t7 (show m ≤ 1000000 by omega) (show 0 ≤ gc by omega) s5
                    obtain ⟨t10, t11⟩ := prod_bd t8 t9 (show 0 ≤ gb by omega) s3
                    rw [← Int.mul_assoc m gc gb] at hnn
                    obtain ⟨u1, u2⟩ := hnn
                    have u3 : -gc * gb = -(gc * gb) := Int.neg_mul _ _
                    have HU := Lib.hid hN0
                    have U1 : 2 * (m * gc * gb - (r : Int) * gd * ga) ≤ gc * gb := u1
                    have U2 : -gc * gb < 2 * (m * gc * gb - (r : Int) * gd * ga) := by rw [u3]; exact u2
                    have U3 : -100000000 ≤ -gc * gb := by rw [u3]; omega
                    have U4 : -gc * gb ≤ 0 := by rw [u3]; omega
                    clear hN0 hnr u1 u2 u3
                    go_wp2_with (first | (go_at_call 10; ((with_reducible refine (HU.out _).mono ?_); rintro e w8 ⟨rfl, hq8⟩; obtain ⟨hg1, hg2, hg3⟩ := (hE7.trans hq8).facts)) | (go_at_call 28; ((with_reducible refine (gerr_0 HG.out _).mono ?_); rintro e w9 ⟨rfl, hq9⟩; obtain ⟨hh1, hh2, hh3⟩ := (Ext.trans (hE7.trans hq8) hq9).facts)))
                    go_ret
                    exact ⟨rfl, by repeat (first | exact Ext.refl _ | assumption | refine Ext.alloc ?_ _ | refine Ext.drew ?_ | refine Ext.drewN ?_ _ | refine Ext.trans ?_ (by assumption))⟩

set_option maxRecDepth 100000 in
theorem seamRows_lifted (os : Os) (started : os.Started) (H : Type) (enc : TypeId × Value → H) :
    ReturnsInHanded {} Try.checked os 9 .any (Rows.seamRowsSpec.pre6 enc Try.prog Try.f9 Rows.seamRowsRow.domain false) (Rows.seamRowsSpec.post enc Try.prog Try.f9 false true false false) := by
  refine returnsInHanded_of_change (C := Try.checked) own started (by kernel_rfl) Try.func9
    (ChangeSpec.witness6 (enc := enc) (C := Try.checked) false ⟨#[], #[.agg #[.int .i64 0, .int .i64 0, .int .i64 0, .int .i64 0], .int .i64 0, .int .i64 0], []⟩ 8 (by kernel_rfl) (by kernel_rfl) (by kernel_rfl) (by kernel_rfl)) ?_
  intro W base args ds gs before hval0 hW hcnd _
  have hval : ∀ (j : Nat) t v, Try.f9.params[j]? = some t → args[j]? = some v → Value.okWide Try.prog W .any base t v := hval0
  have hW' := hW
  obtain ⟨p, q, hA0, hV, rfl, hfz, hnd⟩ := hW
  have hA : DataW.TrodAll enc Try.prog W 0 (fun _ => true) true Try.f9.params.toList args.toList ds p := hA0
  rw [Try.params9] at hA hval
  obtain ⟨v0, vs0, d0, ds0, p0, q0, hargs, rfl, rfl, h0, r0⟩ := trodAll_cons hA
  obtain ⟨v1, vs1, d1, ds1, p1, q1, rfl, rfl, rfl, h1, r1⟩ := trodAll_cons r0
  obtain ⟨v2, vs2, d2, ds2, p2, q2, rfl, rfl, rfl, h2, r2⟩ := trodAll_cons r1
  obtain ⟨rfl, rfl, rfl⟩ := trodAll_nil r2
  obtain rfl : args = #[v0, v1, v2] := by cases args; simp_all
  obtain ⟨rfl, rfl⟩ := trodVars_none hV
  obtain ⟨ga, gb, gc, gd, rfl⟩ := open_gauge (hval 0 23 v0 rfl rfl) h0
  obtain ⟨rows, rfl, rfl, -, -⟩ := open_int Try.underlying3 (hval 1 3 v1 rfl rfl) h1
  obtain ⟨n, rfl, rfl, -, -⟩ := open_int Try.underlying3 (hval 2 3 v2 rfl rfl) h2
  refine (seamRows_walk ga gb gc gd rows n W).mono fun e W' ⟨he, hg⟩ => ?_
  subst he
  exact ⟨_, rfl, law_post laid_out rfl Try.underlying4 (by kernel_rfl) rfl hW' rfl hg⟩

theorem seamRows_holds : Rows.SeamRowsSaid :=
  OpenClaim.holds_of_wide 9 Try.f9 rfl rfl rfl rfl rfl rfl rfl ⟨rfl, rfl, rfl, rfl, rfl⟩ rfl rfl rfl rfl rfl (by kernel_rfl) Try.func9 (by kernel_rfl)
    (of_decide_eq_true (by kernel_rfl)) (by unfold Func.isWrapper; first | (rw [if_pos (by decide +kernel)]; kernel_rfl) | (rw [if_neg (by decide +kernel)]; exact ⟨rfl, rfl⟩))
    (fun os started H enc _ => seamRows_lifted os started H enc)
end Go.Proofs.Ytepegahgiciegaa
