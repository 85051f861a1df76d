/- The contracts of the reference of seam, first part. -/
import Derived.Test.YtepegahgiciegaaSeamA
import Derived.Deep.RegionHeld3
namespace Go.Proofs.Ytepegahgiciegaa
open Go.RowKit
attribute [local go_sem] run_pair_eq

theorem edge_any (n : Int) (w : World) : Calls Try.prog 31 #[.int .i64 n] w fun e w' => e = .returned (.bool (inR n 1 1000)) ∧ w = w' := by
  by_cases h : 1 ≤ n
  · go_enter Try.func31, Try.ntmps31
    go_wp2
    go_ret
    exact ⟨by simp [inR, h], rfl⟩
  · go_enter Try.func31, Try.ntmps31
    go_wp2
    go_ret
    exact ⟨by rw [inR_f (by omega)]; rfl, rfl⟩

theorem rneed_any (a b c d rows : Int) (w : World) :
    Calls Try.prog 11 #[.agg #[.int .i64 a, .int .i64 b, .int .i64 c, .int .i64 d], .int .i64 rows] w
      fun e w' => e = .returned (.tuple #[.int .i64 (needG (gok a b c d) rows (near (rows * d * a) (c * b))).1, .int .i64 (needG (gok a b c d) rows (near (rows * d * a) (c * b))).2]) ∧ Ext w w' := by
  cases hg : gok a b c d
  · have HE := Lib.hid (show gerr a b c d = 8 by simp [gerr, hg])
    clear hg
    go_enter Try.func11, Try.ntmps11
    go_wp2_with (go_at_call 28; ((with_reducible refine (rcheck_any _ _ _ _ _).mono ?_); rintro e w1 ⟨rfl, hq⟩; rw [HE.out]))
    go_ret2
    exact ⟨rfl, by repeat (first | exact Ext.refl _ | assumption | refine Ext.alloc ?_ _ | refine Ext.drew ?_ | refine Ext.drewN ?_ _ | refine Ext.trans ?_ (by assumption))⟩
  obtain ⟨⟨a0, a1⟩, ⟨b0, b1⟩, ⟨c0, c1⟩, ⟨d0, d1⟩⟩ := gok_e hg
  have HE := Lib.hid (show gerr a b c d = 0 by simp [gerr, hg])
  clear hg
  cases hr : inR rows 1 1000
  · have HN := Lib.hid (needG_arg hr (near (rows * d * a) (c * b)))
    go_enter Try.func11, Try.ntmps11
    go_wp2_with (first | (go_at_call 28; ((with_reducible refine (rcheck_any _ _ _ _ _).mono ?_); rintro e w1 ⟨rfl, hq⟩; rw [HE.out])) | (go_at_call 31; ((with_reducible refine (edge_any _ _).mono ?_); rintro e w2 ⟨rfl, rfl⟩)))
    go_ret2
    exact ⟨by rw [HN.out]; rfl, by repeat (first | exact Ext.refl _ | assumption | refine Ext.alloc ?_ _ | refine Ext.drew ?_ | refine Ext.drewN ?_ _ | refine Ext.trans ?_ (by assumption))⟩
  obtain ⟨r0, r1⟩ := inR_e hr
  obtain ⟨p0, p1⟩ := prod_bd (show 0 ≤ rows by omega) r1 (show 0 ≤ d by omega) d1
  obtain ⟨q0, q1⟩ := prod_bd p0 p1 (show 0 ≤ a by omega) a1
  obtain ⟨s0, s1⟩ := prod_bd (show 0 ≤ c by omega) c1 (show 0 ≤ b by omega) b1
  have s2 : 1 ≤ c * b := Int.mul_pos (by omega) (by omega)
  by_cases hc : 1000000 < near (rows * d * a) (c * b)
  · have HN := Lib.hid (needG_range hr hc)
    go_enter Try.func11, Try.ntmps11
    go_wp2_with (first | (go_at_call 28; ((with_reducible refine (rcheck_any _ _ _ _ _).mono ?_); rintro e w1 ⟨rfl, hq⟩; rw [HE.out]; obtain ⟨hf1, hf2, hf3⟩ := hq.facts)) | (go_at_call 31; ((with_reducible refine (edge_any _ _).mono ?_); rintro e w2 ⟨rfl, rfl⟩)) | (go_at_call 32; ((with_reducible refine (nearest_any _ _ _ (by omega) (by omega) (by omega) (by omega)).mono ?_); rintro e w3 ⟨rfl, rfl⟩)))
    go_ret2
    exact ⟨by rw [HN.out]; rfl, by repeat (first | exact Ext.refl _ | assumption | refine Ext.alloc ?_ _ | refine Ext.drew ?_ | refine Ext.drewN ?_ _ | refine Ext.trans ?_ (by assumption))⟩
  · have HN := Lib.hid (needG_ok hr hc)
    go_enter Try.func11, Try.ntmps11
    go_wp2_with (first | (go_at_call 28; ((with_reducible refine (rcheck_any _ _ _ _ _).mono ?_); rintro e w1 ⟨rfl, hq⟩; rw [HE.out]; obtain ⟨hf1, hf2, hf3⟩ := hq.facts)) | (go_at_call 31; ((with_reducible refine (edge_any _ _).mono ?_); rintro e w2 ⟨rfl, rfl⟩)) | (go_at_call 32; ((with_reducible refine (nearest_any _ _ _ (by omega) (by omega) (by omega) (by omega)).mono ?_); rintro e w3 ⟨rfl, rfl⟩)))
    go_ret2
    exact ⟨by rw [HN.out]; rfl, by repeat (first | exact Ext.refl _ | assumption | refine Ext.alloc ?_ _ | refine Ext.drew ?_ | refine Ext.drewN ?_ _ | refine Ext.trans ?_ (by assumption))⟩

set_option maxHeartbeats 400000 in
theorem rpick_any (rows n : Int) (w : World) :
    Calls Try.prog 13 #[.int .i64 rows, .int .i64 n] w
      fun e w' => ∃ A cap, e = .returned (.tuple #[.slice A (pickL rows n).length cap, .int .i64 (edB rows n)]) ∧ Ints w' A (pickL rows n).length (pickL rows n) ∧ Ext w w' := by
  cases h : edOk rows n
  · have HE := Lib.hid (show edB rows n = 2 by simp [edB, h])
    have HL := Lib.hid (show pickL rows n = [] by simp [pickL, h])
    rw [edOk, Bool.and_eq_false_iff] at h
    have h' : inR rows 1 1000 = false ∨ (inR rows 1 1000 = true ∧ inR n 1 1000 = false) := by
      cases e : inR rows 1 1000
      · exact .inl rfl
      · rw [e] at h; simp at h; exact .inr ⟨rfl, h⟩
    clear h
    rcases h' with h1 | ⟨h1, h2⟩
    all_goals
      go_enter Try.func13, Try.ntmps13
      go_wp2_with (go_at_call 31; ((with_reducible refine (edge_any _ _).mono ?_); rintro e w2 ⟨rfl, rfl⟩))
      go_ret2
      exact ⟨none, 0, by rw [HL.out, HE.out]; rfl, by rw [HL.out]; exact Ints.none_ _ _, by repeat (first | exact Ext.refl _ | assumption | refine Ext.alloc ?_ _ | refine Ext.drew ?_ | refine Ext.drewN ?_ _ | refine Ext.trans ?_ (by assumption))⟩
  · obtain ⟨r0, r1, n0, n1⟩ := edOk_e h
    obtain ⟨c, rfl⟩ := Int.eq_ofNat_of_zero_le (show 0 ≤ n by omega)
    have HE := Lib.hid (show edB rows c = 0 by simp [edB, h])
    have HL := Lib.hid (show pickL rows c = (List.range c).map (pickV rows c) by simp [pickL, h])
    clear h
    have i1 := inR_t r0 r1
    have i2 := inR_t n0 n1
    go_enter Try.func13, Try.ntmps13
    go_wp2_with (go_at_call 31; ((with_reducible refine (edge_any _ _).mono ?_); rintro e w2 ⟨rfl, rfl⟩))
    clear i1 i2
    go_loopw [6, 7] (fun v i wr => ∃ k : Nat, k ≤ c ∧ i = .int .i64 k ∧ OwnI wr w.heap.size 3 v k ((List.range k).map (pickV rows c)) ∧ Hid (Ext w wr)) (fun _ i _ => c - (intOf i).toNat)
    case atStart => exact ⟨0, by omega, rfl, OwnI.nil _ _ _, Ext.refl _⟩
    case round =>
      obtain ⟨k, hk, rfl, hown, hext⟩ := hrel
      by_cases hlt : k < c
      · obtain ⟨p0, p1⟩ := prod_bd (show 0 ≤ 2 * (k : Int) + 1 by omega) (show 2 * (k : Int) + 1 ≤ 3000 by omega) (show 0 ≤ rows by omega) r1
        have d0 : 0 ≤ (2 * (k : Int) + 1) * rows / (2 * c) := Int.ediv_nonneg p0 (by omega)
        have d1 : (2 * (k : Int) + 1) * rows / (2 * c) ≤ (2 * (k : Int) + 1) * rows := Int.ediv_le_self _ p0
        go_wp2_with (at_builtin; refine wpList_append_int 29 3 wr.heap.size (pickV rows c k) (by rfl) (by rfl) Try.underlying29 info_int (by rfl) (by rfl) (hown.alloc _) (hext.out.alloc _) (by simp [go_sem, pickV]) (by omega) ?_; intro v' w1 hown1 hext1)
        go_roundw
        case rel => exact ⟨k + 1, by omega, by go_num, by rw [map_range_succ]; exact hown1, hext1⟩
        case measure => simp [intOf]; omega
      · obtain rfl : k = c := by omega
        obtain ⟨A, cap, rfl, hi⟩ := own_ints hown
        go_wp2
        go_ret2
        exact ⟨A, cap, by rw [HL.out, HE.out, List.length_map, List.length_range]; rfl, by rw [HL.out, List.length_map, List.length_range]; exact hi, hext.out⟩

set_option maxHeartbeats 400000 in
theorem rrate_any (rows n : Int) (w : World) :
    Calls Try.prog 15 #[.int .i64 rows, .int .i64 n] w
      fun e w' => e = .returned (.tuple #[.int .i64 (rateG rows n).1, .int .i64 (rateG rows n).2.1, .int .i64 (rateG rows n).2.2]) ∧ Ext w w' := by
  cases h : edOk rows n
  · have HL := Lib.hid (show rateG rows n = (0, 0, 2) by simp [rateG, h])
    rw [edOk, Bool.and_eq_false_iff] at h
    have h' : inR rows 1 1000 = false ∨ (inR rows 1 1000 = true ∧ inR n 1 1000 = false) := by
      cases e : inR rows 1 1000
      · exact .inl rfl
      · rw [e] at h; simp at h; exact .inr ⟨rfl, h⟩
    clear h
    rcases h' with h1 | ⟨h1, h2⟩
    all_goals
      go_enter Try.func15, Try.ntmps15
      go_wp2_with (go_at_call 31; ((with_reducible refine (edge_any _ _).mono ?_); rintro e w2 ⟨rfl, rfl⟩))
      go_ret3
      exact ⟨by rw [HL.out]; rfl, by repeat (first | exact Ext.refl _ | assumption | refine Ext.alloc ?_ _ | refine Ext.drew ?_ | refine Ext.drewN ?_ _ | refine Ext.trans ?_ (by assumption))⟩
  · obtain ⟨r0, r1, n0, n1⟩ := edOk_e h
    obtain ⟨c, rfl⟩ := Int.eq_ofNat_of_zero_le (show 0 ≤ n by omega)
    obtain ⟨r, rfl⟩ := Int.eq_ofNat_of_zero_le (show 0 ≤ rows by omega)
    have HL := Lib.hid (show rateG r c = ((c : Int) / (Nat.gcd r c : Int), (r : Int) / (Nat.gcd r c : Int), 0) by simp [rateG, h, gcdI])
    clear h
    have i1 := inR_t r0 r1
    have i2 := inR_t n0 n1
    go_enter Try.func15, Try.ntmps15
    go_wp2_with (go_at_call 31; ((with_reducible refine (edge_any _ _).mono ?_); rintro e w2 ⟨rfl, rfl⟩))
    clear i1 i2
    go_loopw [7, 8] (fun x y wr => ∃ d i : Nat, 1 ≤ i ∧ i ≤ 1001 ∧ y = .int .i64 i ∧ x = .int .i64 d ∧ Hid (DivUp r c i d) ∧ Hid (Ext w wr)) (fun _ y _ => 1001 - (intOf y).toNat)
    case atStart => exact ⟨1, 1, by omega, by omega, rfl, rfl, DivUp.start r c, Ext.refl _⟩
    case round =>
      obtain ⟨d, i, hi, hi2, rfl, rfl, hd, hx⟩ := hrel
      by_cases hrc : i ≤ r ∧ i ≤ c
      · obtain ⟨h1, h2⟩ := hrc
        by_cases hm : r % i = 0 ∧ c % i = 0
        · obtain ⟨hm1, hm2⟩ := hm
          have hn := Lib.hid (hd.out.yes hi hm1 hm2)
          have b1 : (((r % i : Nat) : Int) == 0) = true := by simp [hm1]
          have b2 : (((c % i : Nat) : Int) == 0) = true := by simp [hm2]
          clear hm1 hm2
          rw [Int.natCast_emod] at b1 b2
          go_wp2
          go_roundw
          case rel => exact ⟨i, i + 1, by omega, by omega, by go_num, rfl, hn, hx⟩
          case measure => simp [intOf]; omega
        · have hn := Lib.hid (hd.out.no hi hm)
          have hm' : r % i ≠ 0 ∨ (r % i = 0 ∧ c % i ≠ 0) := by omega
          clear hm
          rcases hm' with hm1 | ⟨hm1, hm2⟩
          · have b1 : (((r % i : Nat) : Int) == 0) = false := by rw [beq_eq_false_iff_ne]; omega
            clear hm1
            rw [Int.natCast_emod] at b1
            go_wp2
            go_roundw
            case rel => exact ⟨d, i + 1, by omega, by omega, by go_num, rfl, hn, hx⟩
            case measure => simp [intOf]; omega
          · have b1 : (((r % i : Nat) : Int) == 0) = true := by simp [hm1]
            have b2 : (((c % i : Nat) : Int) == 0) = false := by rw [beq_eq_false_iff_ne]; omega
            clear hm1 hm2
            rw [Int.natCast_emod] at b1 b2
            go_wp2
            go_roundw
            case rel => exact ⟨d, i + 1, by omega, by omega, by go_num, rfl, hn, hx⟩
            case measure => simp [intOf]; omega
      · have hde := hd.out.done (by omega) (by omega) (by omega)
        have hd1 := hd.out.1
        have q0 : 0 ≤ (c : Int) / (d : Int) := Int.ediv_nonneg (by omega) (by omega)
        have q1 : (c : Int) / (d : Int) ≤ c := Int.ediv_le_self _ (by omega)
        have q2 : 0 ≤ (r : Int) / (d : Int) := Int.ediv_nonneg (by omega) (by omega)
        have q3 : (r : Int) / (d : Int) ≤ r := Int.ediv_le_self _ (by omega)
        have HD := Lib.hid hde
        clear hde
        have hrc' : r < i ∨ (i ≤ r ∧ c < i) := by omega
        clear hrc
        rcases hrc' with h1 | ⟨h1, h2⟩
        all_goals
          have := hx.out
          go_wp2_with fail
          go_quiet (fail)
          go_wp2
          go_ret3
          exact ⟨by rw [HL.out, ← HD.out]; rfl, by repeat (first | exact Ext.refl _ | assumption | refine Ext.alloc ?_ _ | refine Ext.drew ?_ | refine Ext.drewN ?_ _ | refine Ext.trans ?_ (by assumption))⟩

set_option maxHeartbeats 400000 in
theorem even_any (x a y b : Int) (w : World) (x0 : 0 ≤ x) (x1 : x ≤ 1000) (y0 : 0 ≤ y) (y1 : y ≤ 1000) (a0 : 1 ≤ a) (a1 : a ≤ 1000) (b0 : 1 ≤ b) (b1 : b ≤ 1000) :
    Calls Try.prog 33 #[.int .i64 x, .int .i64 a, .int .i64 y, .int .i64 b] w
      fun e w' => ∃ A cap, e = .returned (.slice A (secL x a y b).length cap) ∧ Vec shPair w' A (secL x a y b).length (secL x a y b) ∧ Ext w w' := by
  obtain ⟨m, hm⟩ := Int.eq_ofNat_of_zero_le (show 0 ≤ max a b by omega)
  have hm1 : (m : Int) ≤ 1000 := by omega
  have hm0 : (1 : Int) ≤ (m : Int) := by omega
  have HM := Lib.hid hm
  have hmx : ∀ (ts : Array TypeId) (t : TypeId) (w : World), (Builtin.max_ ts t #[.int .i64 a, .int .i64 b]).run Try.prog w = .ok (.int .i64 m) w := fun ts t w => by rw [run_max_i, hm]
  clear hm
  go_enter Try.func33, Try.ntmps33
  go_wp2_with fail
  clear hmx
  go_loopw [10, 11] (fun v i wr => ∃ j : Nat, j ≤ m ∧ i = .int .i64 j ∧ OwnV shPair wr w.heap.size 55 v j ((List.range j).map (secV x a y b)) ∧ Hid (Ext w wr)) (fun _ i _ => m - (intOf i).toNat)
  case atStart => exact ⟨0, by omega, rfl, OwnV.nil _ _ _ _, Ext.refl _⟩
  case round =>
    obtain ⟨j, hj, rfl, hown1, hext⟩ := hrel
    by_cases hlt : j < m
    · obtain ⟨p0, p1⟩ := prod_bd (show 0 ≤ (j : Int) by omega) (show (j : Int) ≤ 1000 by omega) (show 0 ≤ a by omega) a1
      obtain ⟨q0, q1⟩ := prod_bd (show 0 ≤ (j : Int) by omega) (show (j : Int) ≤ 1000 by omega) (show 0 ≤ b by omega) b1
      have d0 : 0 ≤ (j : Int) * a / m := Int.ediv_nonneg p0 (by omega)
      have d1 : (j : Int) * a / m ≤ (j : Int) * a := Int.ediv_le_self _ p0
      have d2 : 0 ≤ (j : Int) * b / m := Int.ediv_nonneg q0 (by omega)
      have d3 : (j : Int) * b / m ≤ (j : Int) * b := Int.ediv_le_self _ q0
      have HV := Lib.hid (show secV x a y b j = (x + (j : Int) * a / m, y + (j : Int) * b / m) by rw [secV, HM.out])
      have f1 := IntWalk.i64_in ((j : Int) * a) (by omega)
      have f2 := IntWalk.i64_in ((j : Int) * b) (by omega)
      have f3 : ((j : Int) * a).tdiv m = (j : Int) * a / m := Int.tdiv_eq_ediv_of_nonneg p0
      have f4 : ((j : Int) * b).tdiv m = (j : Int) * b / m := Int.tdiv_eq_ediv_of_nonneg q0
      have f5 := IntWalk.i64_in ((j : Int) * a / m) (by omega)
      have f6 := IntWalk.i64_in ((j : Int) * b / m) (by omega)
      have f7 := IntWalk.i64_in (x + (j : Int) * a / m) (by omega)
      have f8 := IntWalk.i64_in (y + (j : Int) * b / m) (by omega)
      have f9 : ¬ m = 0 := by omega
      have hkj : j ≤ 1000000 := by omega
      go_wp2_with fail
      go_region_held3 (fun _ => True) (trivial) (first | (refine step_append_vec (S := shPair) 40 55 (.agg #[.int .i64 0, .int .i64 0]) 16 wr.heap.size (x + (j : Int) * a / m, y + (j : Int) * b / m) (by rfl) (by rfl) Try.underlying40 info_pair (by rfl) (by omega) (by rfl) (by rfl) ((hown1.alloc _).drew) ((hext.out.alloc _).drew) (pair_new _ _ _ _) hkj ?_; intro v' w1 hown2 hext2 _))
      clear f1 f2 f3 f4 f5 f6 f7 f8 f9
      go_wp2
      go_roundw
      case rel => exact ⟨j + 1, by omega, by go_num, by rw [map_range_succ, HV.out]; exact hown2, hext2⟩
      case measure => simp [intOf]; omega
    · obtain rfl : j = m := by omega
      obtain ⟨A, cap, rfl, hi⟩ := own_vec hown1
      go_wp2
      go_ret
      have e1 : (secL x a y b).length = j := by rw [secL_len, HM.out]; simp
      refine ⟨A, cap, by rw [e1]; rfl, ?_, hext.out⟩
      rw [e1]
      unfold secL
      rw [HM.out]
      exact hi

theorem rjoin_any (a b : Int) (w : World) : Calls Try.prog 18 #[.int .i64 a, .int .i64 b] w (PrsE w (joinL a b) (edB a b)) := by
  cases h : edOk a b
  · have HE := Lib.hid (show edB a b = 2 by simp [edB, h])
    have HL := Lib.hid (show joinL a b = [] by simp [joinL, h])
    rw [edOk, Bool.and_eq_false_iff] at h
    have h' : inR a 1 1000 = false ∨ (inR a 1 1000 = true ∧ inR b 1 1000 = false) := by
      cases e : inR a 1 1000
      · exact .inl rfl
      · rw [e] at h; simp at h; exact .inr ⟨rfl, h⟩
    clear h
    rcases h' with h1 | ⟨h1, h2⟩
    all_goals
      go_enter Try.func18, Try.ntmps18
      go_wp2_with (go_at_call 31; ((with_reducible refine (edge_any _ _).mono ?_); rintro e w2 ⟨rfl, rfl⟩))
      go_ret2
      exact PrsE.mk none 0 (by rw [HL.out, HE.out]; rfl) (by rw [HL.out]; exact Vec.none_ _ _ _) (by repeat (first | exact Ext.refl _ | assumption | refine Ext.alloc ?_ _ | refine Ext.drew ?_ | refine Ext.drewN ?_ _ | refine Ext.trans ?_ (by assumption)))
  · obtain ⟨a0, a1, b0, b1⟩ := edOk_e h
    have HE := Lib.hid (show edB a b = 0 by simp [edB, h])
    have HL := Lib.hid (show joinL a b = secL 0 a 0 b by simp [joinL, h])
    clear h
    have i1 := inR_t a0 a1
    have i2 := inR_t b0 b1
    go_enter Try.func18, Try.ntmps18
    go_wp2_with (first | (go_at_call 31; ((with_reducible refine (edge_any _ _).mono ?_); rintro e w2 ⟨rfl, rfl⟩)) | (go_at_call 33; ((with_reducible refine (even_any 0 a 0 b _ (by omega) (by omega) (by omega) (by omega) (by omega) (by omega) (by omega) (by omega)).mono ?_); rintro e w3 ⟨A, cap, rfl, hv, hq⟩)))
    go_ret2
    exact PrsE.mk A cap (by rw [HL.out, HE.out]; rfl) (by rw [HL.out]; exact hv) hq

set_option maxHeartbeats 400000 in
theorem rmarksb_any (n c : Nat) (A : Option Addr) (l : List Int) (a : Int) (w : World) (hl : Ints w A n l) (hm : n ≤ maxLen) (a0 : 1 ≤ a) (a1 : a ≤ 1000) :
    Calls Try.prog 36 #[.slice A n c, .int .i64 a] w fun e w' => e = .returned (.bool (mkOk l a)) ∧ Ext w w' := by
  have HX := Lib.hid hl
  clear hl
  unfold maxLen at hm
  go_enter Try.func36, Try.ntmps36
  go_wp2_with fail
  go_loopw [5] (fun i wr => ∃ k : Nat, k ≤ n ∧ i = .int .i64 k ∧ Hid (∀ j, j < k → mkAt l a j = true) ∧ Hid (Ext w wr)) (fun i _ => n - (intOf i).toNat)
  case atStart => exact ⟨0, by omega, rfl, fun j hj => absurd hj (by omega), Ext.refl _⟩
  case round =>
    obtain ⟨k, hk, rfl, hall, hext⟩ := hrel
    have := hext.out
    by_cases hlt : k < n
    · obtain ⟨b, off, rfl, hb, hc⟩ := HX.out.2 (by omega)
      have h1 := (Below.cell (p := ⟨b, off + k, none⟩) hext.out hb).trans (hc k hlt)
      have q0 : (0 : Int) ≤ (k : Int) := by omega
      have q1 : (k : Int) < (n : Int) := by omega
      have f1 := IntWalk.i64_in (a - 1) (by omega)
      cases hr : mkAt l a k
      · have HB := Lib.hid (mkOk_bad HX.out.1 hlt hr)
        simp only [mkAt, Bool.and_eq_false_iff, decide_eq_false_iff_not] at hr
        by_cases hx1 : l.getD k 0 < 1
        · clear hc hr
          generalize l.getD k 0 = x at *
          have d1 : decide (x < 1) = true := by simp [hx1]
          go_wp2_with fail
          go_quiet (fail)
          go_wp2
          go_ret
          exact ⟨by rw [HB.out]; rfl, by repeat (first | exact Ext.refl _ | assumption | refine Ext.alloc ?_ _ | refine Ext.drew ?_ | refine Ext.drewN ?_ _ | refine Ext.trans ?_ (by assumption))⟩
        by_cases hx2 : a - 1 < l.getD k 0
        · clear hc hr
          generalize l.getD k 0 = x at *
          have d1 : decide (x < 1) = false := by simp; omega
          have d2 : decide (a - 1 < x) = true := by simp [hx2]
          go_wp2_with fail
          go_quiet (fail)
          go_wp2
          go_ret
          exact ⟨by rw [HB.out]; rfl, by repeat (first | exact Ext.refl _ | assumption | refine Ext.alloc ?_ _ | refine Ext.drew ?_ | refine Ext.drewN ?_ _ | refine Ext.trans ?_ (by assumption))⟩
        cases k with
        | zero => exfalso; simp at hr hx1 hx2; omega
        | succ k =>
          have h2 := (Below.cell (p := ⟨b, off + k, none⟩) hext.out hb).trans (hc k (by omega))
          have e1 : (0 :: l).getD (k + 1) 0 = l.getD k 0 := by simp
          rw [e1] at hr
          clear hc e1
          generalize l.getD k 0 = y at *
          generalize l.getD (k + 1) 0 = x at *
          have d1 : decide (x < 1) = false := by simp; omega
          have d2 : decide (a - 1 < x) = false := by simp; omega
          have d3 : decide (0 < k + 1) = true := by simp
          have d4 : decide (x ≤ y) = true := by simp; omega
          have q2 : (0 : Int) ≤ (k : Int) := by omega
          have q3 : (k : Int) < (n : Int) := by omega
          have q4 : (0 : Int) ≤ (k : Int) + 1 := by omega
          have q5 : (k : Int) + 1 < (n : Int) := by omega
          have q6 : ((k : Int) + 1).toNat = k + 1 := by omega
          have f2 := IntWalk.i64_in (k : Int) (by omega)
          go_wp2_with fail
          go_quiet (fail)
          go_wp2
          go_ret
          exact ⟨by rw [HB.out]; rfl, by repeat (first | exact Ext.refl _ | assumption | refine Ext.alloc ?_ _ | refine Ext.drew ?_ | refine Ext.drewN ?_ _ | refine Ext.trans ?_ (by assumption))⟩
      · have HA := Lib.hid (show ∀ j, j < k + 1 → mkAt l a j = true from fun j hj => by
            by_cases e : j = k
            · subst e; exact hr
            · exact hall.out j (by omega))
        have hlo : 0 ≤ (0 :: l).getD k 0 := by
          cases k with
          | zero => simp
          | succ k =>
            have := hall.out
            have hp : ∀ j, j < k + 1 → 0 < l.getD j 0 := by
              intro j
              induction j with
              | zero => intro hj; have := this 0 hj; simp [mkAt] at this ⊢; omega
              | succ j ih => intro hj; have h1 := this (j + 1) hj; have h2 := ih (by omega); simp [mkAt] at h1 h2 ⊢; omega
            have := hp k (by omega)
            simp at this ⊢; omega
        simp only [mkAt, Bool.and_eq_true, decide_eq_true_eq] at hr
        clear hall
        obtain ⟨n0, n1⟩ := hr
        cases k with
        | zero =>
          clear hc
          have n0' : 0 < l.getD 0 0 := by simpa using n0
          clear n0 hlo
          rw [Nat.add_zero] at h1
          have q2 : (0 : Int) < (n : Int) := by omega
          generalize l.getD 0 0 = x at *
          have d1 : decide (x < 1) = false := by simp; omega
          have d2 : decide (a - 1 < x) = false := by simp; omega
          go_wp2_with fail
          go_quiet (fail)
          go_wp2
          go_roundw
          case rel => exact ⟨0 + 1, by omega, by go_num, HA, by repeat (first | exact Ext.refl _ | assumption | refine Ext.alloc ?_ _ | refine Ext.drew ?_ | refine Ext.drewN ?_ _ | refine Ext.trans ?_ (by assumption))⟩
          case measure => simp [intOf]; omega
        | succ k =>
          have h2 := (Below.cell (p := ⟨b, off + k, none⟩) hext.out hb).trans (hc k (by omega))
          have e1 : (0 :: l).getD (k + 1) 0 = l.getD k 0 := by simp
          rw [e1] at n0 hlo
          clear hc e1
          generalize l.getD k 0 = y at *
          generalize l.getD (k + 1) 0 = x at *
          have d1 : decide (x < 1) = false := by simp; omega
          have d2 : decide (a - 1 < x) = false := by simp; omega
          have d3 : decide (0 < k + 1) = true := by simp
          have d4 : decide (x ≤ y) = false := by simp; omega
          have q2 : (0 : Int) ≤ (k : Int) := by omega
          have q3 : (k : Int) < (n : Int) := by omega
          have q4 : (0 : Int) ≤ (k : Int) + 1 := by omega
          have q5 : (k : Int) + 1 < (n : Int) := by omega
          have q6 : ((k : Int) + 1).toNat = k + 1 := by omega
          have f2 := IntWalk.i64_in (k : Int) (by omega)
          go_wp2_with fail
          go_quiet (fail)
          go_wp2
          go_roundw
          case rel => exact ⟨k + 1 + 1, by omega, by go_num, HA, by repeat (first | exact Ext.refl _ | assumption | refine Ext.alloc ?_ _ | refine Ext.drew ?_ | refine Ext.drewN ?_ _ | refine Ext.trans ?_ (by assumption))⟩
          case measure => simp [intOf]; omega
    · obtain rfl : k = n := by omega
      have HB := Lib.hid (mkOk_ok HX.out.1 hall.out)
      go_wp2
      go_ret
      exact ⟨by rw [HB.out]; rfl, by repeat (first | exact Ext.refl _ | assumption | refine Ext.alloc ?_ _ | refine Ext.drew ?_ | refine Ext.drewN ?_ _ | refine Ext.trans ?_ (by assumption))⟩


theorem same_any (n m c d : Nat) (A B : Option Addr) (xs ys : List Int) (w : World) (hx : Ints w A n xs) (hy : Ints w B m ys) (hn : n ≤ maxLen) :
    Calls Try.prog 16 #[.slice A n c, .slice B m d] w fun e w' => e = .returned (.bool (decide (xs = ys))) ∧ Ext w w' := by
  have HX := Lib.hid hx
  have HY := Lib.hid hy
  unfold maxLen at hn
  clear hx hy
  by_cases hnm : n = m
  · subst hnm
    go_enter Try.func16, Try.ntmps16
    go_wp2_with fail
    go_loopw [5] (fun i wr => ∃ k : Nat, k ≤ n ∧ i = .int .i64 k ∧ Hid (∀ j, j < k → xs.getD j 0 = ys.getD j 0) ∧ Hid (Ext w wr)) (fun i _ => n - (intOf i).toNat)
    case atStart => exact ⟨0, by omega, rfl, fun j hj => absurd hj (by omega), Ext.refl _⟩
    case round =>
      obtain ⟨k, hk, rfl, hall, hext⟩ := hrel
      by_cases hlt : k < n
      · obtain ⟨b, off, rfl, hb, hc⟩ := (HX.out.ext hext.out).2 (by omega)
        obtain ⟨b', off', rfl, hb', hc'⟩ := (HY.out.ext hext.out).2 (by omega)
        have h1 := hc k hlt
        have h2 := hc' k hlt
        clear hc hc'
        generalize hxk : xs.getD k 0 = x at h1
        generalize hyk : ys.getD k 0 = y at h2
        have HXK := Lib.hid hxk
        have HYK := Lib.hid hyk
        clear hxk hyk
        have q0 : (0 : Int) ≤ (k : Int) := by omega
        have q1 : (k : Int) < (n : Int) := by omega
        by_cases hxy : x = y
        · subst hxy
          have HA := Lib.hid (show ∀ j, j < k + 1 → xs.getD j 0 = ys.getD j 0 from fun j hj => by
            by_cases e : j = k
            · subst e; rw [HXK.out, HYK.out]
            · exact hall.out j (by omega))
          clear hall
          go_wp2_with fail
          go_quiet (fail)
          go_wp2
          go_roundw
          case rel => exact ⟨k + 1, by omega, by go_num, HA, by have := hext.out; repeat (first | exact Ext.refl _ | refine Ext.alloc ?_ _ | refine Ext.drew ?_ | refine Ext.drewN ?_ _ | refine Ext.trans ?_ (by assumption))⟩
          case measure => simp [intOf]; omega
        · have HF := Lib.hid (show decide (xs = ys) = false by
            simp only [decide_eq_false_iff_not]; rintro rfl; exact hxy (by rw [← HXK.out, ← HYK.out]))
          have hne : (x != y) = true := by simp [hxy]
          go_wp2_with fail
          go_quiet (fail)
          go_wp2
          go_ret
          exact ⟨by rw [HF.out]; rfl, by have := hext.out; repeat (first | exact Ext.refl _ | refine Ext.alloc ?_ _ | refine Ext.drew ?_ | refine Ext.drewN ?_ _ | refine Ext.trans ?_ (by assumption))⟩
      · obtain rfl : k = n := by omega
        have HF := Lib.hid (show decide (xs = ys) = true from decide_eq_true (ints_eq HX.out.1 HY.out.1 hall.out))
        go_wp2
        go_ret
        exact ⟨by rw [HF.out]; rfl, hext.out⟩
  · have HF := Lib.hid (show decide (xs = ys) = false by
      simp only [decide_eq_false_iff_not]; rintro rfl; exact hnm (HX.out.1.symm.trans HY.out.1))
    have hne : ((n : Int) != (m : Int)) = true := by simp; omega
    go_enter Try.func16, Try.ntmps16
    go_wp2_with fail
    go_ret
    exact ⟨by rw [HF.out]; rfl, by repeat (first | exact Ext.refl _ | refine Ext.alloc ?_ _ | refine Ext.drew ?_ | refine Ext.drewN ?_ _ | refine Ext.trans ?_ (by assumption))⟩


set_option maxHeartbeats 400000 in
theorem psame_any (n m c d : Nat) (A B : Option Addr) (xs ys : List (Int × Int)) (w : World) (hx : Vec shPair w A n xs) (hy : Vec shPair w B m ys) (hn : n ≤ maxLen) :
    Calls Try.prog 23 #[.slice A n c, .slice B m d] w fun e w' => e = .returned (.bool (decide (xs = ys))) ∧ Ext w w' := by
  have HX := Lib.hid hx
  have HY := Lib.hid hy
  unfold maxLen at hn
  clear hx hy
  by_cases hnm : n = m
  · subst hnm
    go_enter Try.func23, Try.ntmps23
    go_wp2_with fail
    go_loopw [5] (fun i wr => ∃ k : Nat, k ≤ n ∧ i = .int .i64 k ∧ Hid (∀ j, j < k → xs.getD j (0, 0) = ys.getD j (0, 0)) ∧ Hid (Ext w wr)) (fun i _ => n - (intOf i).toNat)
    case atStart => exact ⟨0, by omega, rfl, fun j hj => absurd hj (by omega), Ext.refl _⟩
    case round =>
      obtain ⟨k, hk, rfl, hall, hext⟩ := hrel
      have := hext.out
      by_cases hlt : k < n
      · obtain ⟨b, off, rfl, hb, h1, h2⟩ := Prs.at_ (HX.out.ext hext.out) hlt
        obtain ⟨b', off', rfl, hb', h3, h4⟩ := Prs.at_ (HY.out.ext hext.out) hlt
        have q0 : (0 : Int) ≤ (k : Int) := by omega
        have q1 : (k : Int) < (n : Int) := by omega
        by_cases hxy : xs.getD k (0, 0) = ys.getD k (0, 0)
        · have HA := Lib.hid (show ∀ j, j < k + 1 → xs.getD j (0, 0) = ys.getD j (0, 0) from fun j hj => by
            by_cases e : j = k
            · subst e; exact hxy
            · exact hall.out j (by omega))
          rw [← hxy] at h3 h4
          clear hall hxy
          generalize xs.getD k (0, 0) = x at *
          obtain ⟨x, y⟩ := x
          simp only at h1 h2 h3 h4
          go_wp2_with fail
          go_quiet (fail)
          go_wp2
          go_roundw
          case rel => exact ⟨k + 1, by omega, by go_num, HA, by repeat (first | exact Ext.refl _ | assumption | refine Ext.alloc ?_ _ | refine Ext.drew ?_ | refine Ext.drewN ?_ _ | refine Ext.trans ?_ (by assumption))⟩
          case measure => simp [intOf]; omega
        · have HF := Lib.hid (show decide (xs = ys) = false by
            simp only [decide_eq_false_iff_not]; rintro rfl; exact hxy rfl)
          generalize xs.getD k (0, 0) = x at *
          generalize ys.getD k (0, 0) = y at *
          obtain ⟨x, x'⟩ := x
          obtain ⟨y, y'⟩ := y
          simp only at h1 h2 h3 h4
          have hxy' : ¬ ((x == y) = true ∧ (x' == y') = true) := by simpa using hxy
          clear hxy
          go_wp2_with fail
          go_quiet (fail)
          go_wp2
          all_goals first | (go_ret; exact ⟨by rw [HF.out]; rfl, by repeat (first | exact Ext.refl _ | assumption | refine Ext.alloc ?_ _ | refine Ext.drew ?_ | refine Ext.drewN ?_ _ | refine Ext.trans ?_ (by assumption))⟩) | (exfalso; have h9 : (!x == y) = false ∧ (!x' == y') = false := (by assumption); simp at h9; exact hxy' (by simpa using h9))
      · obtain rfl : k = n := by omega
        have HF := Lib.hid (show decide (xs = ys) = true from decide_eq_true (prs_eq HX.out.1 HY.out.1 hall.out))
        go_wp2
        go_ret
        exact ⟨by rw [HF.out]; rfl, hext.out⟩
  · have HF := Lib.hid (show decide (xs = ys) = false by
      simp only [decide_eq_false_iff_not]; rintro rfl; exact hnm (HX.out.1.symm.trans HY.out.1))
    have hne : ((n : Int) != (m : Int)) = true := by simp; omega
    go_enter Try.func23, Try.ntmps23
    go_wp2_with fail
    go_ret
    exact ⟨by rw [HF.out]; rfl, by repeat (first | exact Ext.refl _ | assumption | refine Ext.alloc ?_ _ | refine Ext.drew ?_ | refine Ext.drewN ?_ _ | refine Ext.trans ?_ (by assumption))⟩
end Go.Proofs.Ytepegahgiciegaa
