/- The contracts of the functions of seam. -/
import Derived.Test.YtepegahgiciegaaGaugeK
import Derived.Test.YtepegahgiciegaaPairs
import Derived.Test.YtepegahgiciegaaSeamQ
import Derived.Deep.QuietTactic
import Derived.BigQuiet
import Derived.Laws.Small
namespace Go.Proofs.Ytepegahgiciegaa
open Go.RowKit

theorem run_max_i {P : Program} {w : World} (ts : Array TypeId) (t : TypeId) (x y : Int) : (Builtin.max_ ts t #[.int .i64 x, .int .i64 y]).run P w = .ok (.int .i64 (max x y)) w := by
  rw [run_max_int2]
  congr 2
  split <;> omega

theorem info_int : (Try.prog.info? 3).map (fun i => (i.zero, i.size, i.bytes)) = some (some (.int .i64 0), 1, 8) := by kernel_rfl
theorem edges_any (n c : Nat) (A : Option Addr) (l : List Int) (w : World) (hl : Ints w A n l) (hn : n ≤ 2) :
    Calls Try.prog 30 #[.slice A n c] w fun e w' => e = .returned (.int .i64 (edE l)) ∧ w = w' := by
  have HX := Lib.hid hl
  clear hl
  go_enter Try.func30, Try.ntmps30
  go_wp2_with fail
  go_loop [7] (fun i => ∃ k : Nat, k ≤ n ∧ i = .int .i64 k ∧ Hid (∀ j, j < k → inR (l.getD j 0) 1 1000 = true)) (fun i => n - (intOf i).toNat)
  case atStart => exact ⟨0, by omega, rfl, fun j hj => absurd hj (by omega)⟩
  case round =>
    obtain ⟨k, hk, rfl, hall⟩ := hrel
    by_cases hlt : k < n
    · obtain ⟨b, off, rfl, hb, hc⟩ := HX.out.2 (by omega)
      have h1 := hc k hlt
      clear hc
      cases hr : inR (l.getD k 0) 1 1000
      · have HB := Lib.hid (edE_bad HX.out.1 hlt hr)
        have hn := inR_n hr
        clear hr
        generalize l.getD k 0 = x at *
        rcases hn with hn | hn
        · go_wp2
          go_ret
          exact ⟨by rw [HB.out]; rfl, rfl⟩
        · go_wp2
          go_ret
          exact ⟨by rw [HB.out]; rfl, rfl⟩
      · have HA := Lib.hid (show ∀ j, j < k + 1 → inR (l.getD j 0) 1 1000 = true from fun j hj => by
            by_cases e : j = k
            · subst e; exact hr
            · exact hall.out j (by omega))
        have hn := inR_e hr
        clear hr hall
        obtain ⟨n0, n1⟩ := hn
        generalize l.getD k 0 = x at *
        go_wp2
        go_round
        case rel => exact ⟨k + 1, by omega, by go_num, HA⟩
        case measure => simp [intOf]; omega
    · obtain rfl : k = n := by omega
      have HB := Lib.hid (edE_ok HX.out.1 hall.out)
      go_wp2
      go_ret
      exact ⟨by rw [HB.out]; rfl, rfl⟩
theorem edges1 (a : Int) (w : World) :
    Calls Try.prog 30 #[.slice (some ⟨w.heap.size, 0, none⟩) 1 1] (w.alloc (.cells #[.int .i64 a] 3)) fun e w' => e = .returned (.int .i64 (if inR a 1 1000 then 0 else 2)) ∧ w.alloc (.cells #[.int .i64 a] 3) = w' := by
  have h := edges_any 1 1 (some ⟨w.heap.size, 0, none⟩) [a] (w.alloc (.cells #[.int .i64 a] 3)) ⟨rfl, fun _ => ⟨_, _, rfl, by simp, fun j hj => by
    obtain rfl : j = 0 := by omega
    simp [go_sem]⟩⟩ (by omega)
  rwa [edE_one] at h
theorem edges2 (a b : Int) (w : World) :
    Calls Try.prog 30 #[.slice (some ⟨w.heap.size, 0, none⟩) 2 2] (w.alloc (.cells #[.int .i64 a, .int .i64 b] 3)) fun e w' => e = .returned (.int .i64 (edB a b)) ∧ w.alloc (.cells #[.int .i64 a, .int .i64 b] 3) = w' := by
  have h := edges_any 2 2 (some ⟨w.heap.size, 0, none⟩) [a, b] (w.alloc (.cells #[.int .i64 a, .int .i64 b] 3)) ⟨rfl, fun _ => ⟨_, _, rfl, by simp, fun j hj => by
    rcases (show j = 0 ∨ j = 1 by omega) with rfl | rfl <;> simp [go_sem]⟩⟩ (by omega)
  rwa [edE_two] at h

theorem need_any (a b c d rows : Int) (w : World) :
    Calls Try.prog 10 #[.agg #[.int .i64 a, .int .i64 b, .int .i64 c, .int .i64 d], .int .i64 rows] w
      fun e w' => e = .returned (.tuple #[.int .i64 (needG (gok a b c d) rows (near (rows * d * a) (c * b))).1, .int .i64 (needG (gok a b c d) rows (near (rows * d * a) (c * b))).2]) ∧ Ext w w' := by
  cases hg : gok a b c d
  · have HE := Lib.hid (show gerr a b c d = 8 by simp [gerr, hg])
    clear hg
    go_enter Try.func10, Try.ntmps10
    go_wp2_with (go_at_call 29; ((with_reducible refine (gcheck_any _ _ _ _ _).mono ?_); rintro e w1 ⟨rfl, hq⟩; rw [HE.out]))
    go_ret2
    exact ⟨rfl, by repeat (first | exact Ext.refl _ | assumption | refine Ext.alloc ?_ _ | refine Ext.drew ?_ | refine Ext.drewN ?_ _ | refine Ext.trans ?_ (by assumption))⟩
  obtain ⟨⟨a0, a1⟩, ⟨b0, b1⟩, ⟨c0, c1⟩, ⟨d0, d1⟩⟩ := gok_e hg
  have HE := Lib.hid (show gerr a b c d = 0 by simp [gerr, hg])
  clear hg
  cases hr : inR rows 1 1000
  · have HN := Lib.hid (needG_arg hr (near (rows * d * a) (c * b)))
    go_enter Try.func10, Try.ntmps10
    go_wp2_with (first | (go_at_call 29; ((with_reducible refine (gcheck_any _ _ _ _ _).mono ?_); rintro e w1 ⟨rfl, hq⟩; rw [HE.out])) | (go_at_call 30; ((with_reducible refine (edges1 rows _).mono ?_); rintro e w2 ⟨rfl, rfl⟩)))
    go_ret2
    exact ⟨by rw [HN.out]; rfl, by repeat (first | exact Ext.refl _ | assumption | refine Ext.alloc ?_ _ | refine Ext.drew ?_ | refine Ext.drewN ?_ _ | refine Ext.trans ?_ (by assumption))⟩
  obtain ⟨r0, r1⟩ := inR_e hr
  obtain ⟨p0, p1⟩ := prod_bd (show 0 ≤ rows by omega) r1 (show 0 ≤ d by omega) d1
  obtain ⟨q0, q1⟩ := prod_bd p0 p1 (show 0 ≤ a by omega) a1
  obtain ⟨s0, s1⟩ := prod_bd (show 0 ≤ c by omega) c1 (show 0 ≤ b by omega) b1
  have s2 : 1 ≤ c * b := Int.mul_pos (by omega) (by omega)
  by_cases hc : 1000000 < near (rows * d * a) (c * b)
  · have HN := Lib.hid (needG_range hr hc)
    unfold near at hc
    go_enter Try.func10, Try.ntmps10
    go_wp2_with (first | (go_at_call 29; ((with_reducible refine (gcheck_any _ _ _ _ _).mono ?_); rintro e w1 ⟨rfl, hq⟩; rw [HE.out]; obtain ⟨hf1, hf2, hf3⟩ := hq.facts)) | (go_at_call 30; ((with_reducible refine (edges1 rows _).mono ?_); rintro e w2 ⟨rfl, rfl⟩)))
    go_quiet (fail)
    go_wp2
    go_ret2
    exact ⟨by rw [HN.out]; rfl, by repeat (first | exact Ext.refl _ | assumption | refine Ext.alloc ?_ _ | refine Ext.drew ?_ | refine Ext.drewN ?_ _ | refine Ext.trans ?_ (by assumption))⟩
  · have HN := Lib.hid (needG_ok hr hc)
    unfold near at hc
    go_enter Try.func10, Try.ntmps10
    go_wp2_with (first | (go_at_call 29; ((with_reducible refine (gcheck_any _ _ _ _ _).mono ?_); rintro e w1 ⟨rfl, hq⟩; rw [HE.out]; obtain ⟨hf1, hf2, hf3⟩ := hq.facts)) | (go_at_call 30; ((with_reducible refine (edges1 rows _).mono ?_); rintro e w2 ⟨rfl, rfl⟩)))
    go_quiet (fail)
    go_wp2
    go_ret2
    exact ⟨by rw [HN.out]; rfl, by repeat (first | exact Ext.refl _ | assumption | refine Ext.alloc ?_ _ | refine Ext.drew ?_ | refine Ext.drewN ?_ _ | refine Ext.trans ?_ (by assumption))⟩

theorem pick_any (rows n : Int) (w : World) :
    Calls Try.prog 12 #[.int .i64 rows, .int .i64 n] w
      fun e w' => ∃ A cap, e = .returned (.tuple #[.slice A (pickL rows n).length cap, .int .i64 (edB rows n)]) ∧ Ints w' A (pickL rows n).length (pickL rows n) ∧ Ext w w' := by
  cases h : edOk rows n
  · have HE := Lib.hid (show edB rows n = 2 by simp [edB, h])
    have HL := Lib.hid (show pickL rows n = [] by simp [pickL, h])
    clear h
    go_enter Try.func12, Try.ntmps12
    go_wp2_with (go_at_call 30; ((with_reducible refine (edges2 rows n _).mono ?_); rintro e w2 ⟨rfl, rfl⟩; rw [HE.out]))
    go_ret2
    exact ⟨none, 0, by rw [HL.out, HE.out]; rfl, by rw [HL.out]; exact Ints.none_ _ _, by repeat (first | exact Ext.refl _ | assumption | refine Ext.alloc ?_ _ | refine Ext.drew ?_ | refine Ext.drewN ?_ _ | refine Ext.trans ?_ (by assumption))⟩
  · obtain ⟨r0, r1, n0, n1⟩ := edOk_e h
    obtain ⟨c, rfl⟩ := Int.eq_ofNat_of_zero_le (show 0 ≤ n by omega)
    have HE := Lib.hid (show edB rows c = 0 by simp [edB, h])
    have HL := Lib.hid (show pickL rows c = (List.range c).map (pickV rows c) by simp [pickL, h])
    clear h
    obtain ⟨i0, hi, hz0, hz1, hz2⟩ := info_parts info_int
    go_enter Try.func12, Try.ntmps12
    go_wp2_with (first | (go_at_call 30; ((with_reducible refine (edges2 rows c _).mono ?_); rintro e w2 ⟨rfl, rfl⟩; rw [HE.out])) | (at_make; refine wpList_make_full _ rfl _ _ 29 rfl w.heap.size 3 i0 (.int .i64 0) 1 Try.underlying29 hi hz0 hz1 _ _ _ _ c rfl rfl rfl rfl (by rw [hz2]; omega) (by unfold maxLen; omega) (by simp) ?_; intro w1 hown hgr))
    have hrow := RowV.made (Value.int .i64 0) rfl hown
    have HR := Lib.hid (hrow.congr (f' := fun j => .int .i64 (if j < 0 then pickV rows c j else 0)) (fun j _ => by simp))
    have HB := Lib.hid (show Ext w w1 from ((Ext.refl w).alloc _).trans (But.ext_none hgr))
    have HG := Lib.hid (show w.heap.size ≤ w.heap.size + 1 by omega)
    clear hrow hown hgr
    go_loopw [20] (fun v wr => ∃ k : Nat, k ≤ c ∧ v = .int .i64 k ∧ Hid (RowV wr (w.heap.size + 1) c (fun j => .int .i64 (if j < k then pickV rows c j else 0))) ∧ Hid (Ext w wr)) (fun v _ => c - (intOf v).toNat)
    case atStart => exact ⟨0, by omega, rfl, by simpa using HR, HB⟩
    case round =>
      obtain ⟨k, hk, rfl, hr1, hr3⟩ := hrel
      clear HR HB
      by_cases hlt : k < c
      · have R2 := hr1.out
        have hc2 := R2.at_ hlt
        have hf2 := R2.free hlt
        have hz2 := R2.lt
        obtain ⟨p0, p1⟩ := prod_bd (show 0 ≤ 2 * (k : Int) + 1 by omega) (show 2 * (k : Int) + 1 ≤ 3000 by omega) (show 0 ≤ rows by omega) r1
        have R3 := Lib.hid ((R2.set hlt (.int .i64 (pickV rows c k))).congr (f' := fun j => .int .i64 (if j < k + 1 then pickV rows c j else 0)) (fun j hj => by
          by_cases e : j = k
          · subst e; simp
          · simp only [if_neg e]
            by_cases e2 : j < k
            · rw [if_pos e2, if_pos (by omega)]
            · rw [if_neg e2, if_neg (by omega)]))
        have B3 := Lib.hid (show Ext w (wr.setCell ⟨w.heap.size + 1, k, none⟩ (.int .i64 (pickV rows c k))) from Below.setCell hr3.out (by simp) _)
        unfold pickV at R3 B3
        clear R2 hr1 hr3
        go_wp2
        go_roundw
        case rel => exact ⟨k + 1, by omega, by go_num, R3, B3⟩
        case measure => simp [intOf]; omega
      · obtain rfl : k = c := by omega
        go_wp2
        go_ret2
        refine ⟨_, _, by rw [HL.out, HE.out, List.length_map, List.length_range]; rfl, ?_, hr3.out⟩
        have := Ints.of_row (f := fun j => if j < k then pickV rows k j else 0) hr1.out
        rw [HL.out, List.length_map, List.length_range]
        rwa [show (List.range k).map (fun j => if j < k then pickV rows k j else 0) = (List.range k).map (pickV rows k) from List.map_congr_left (fun j hj => if_pos (List.mem_range.1 hj))] at this

set_option maxHeartbeats 400000 in
theorem rate_any (rows n : Int) (w : World) :
    Calls Try.prog 14 #[.int .i64 rows, .int .i64 n] w
      fun e w' => e = .returned (.tuple #[.int .i64 (rateG rows n).1, .int .i64 (rateG rows n).2.1, .int .i64 (rateG rows n).2.2]) ∧ Ext w w' := by
  cases h : edOk rows n
  · have HE := Lib.hid (show edB rows n = 2 by simp [edB, h])
    have HL := Lib.hid (show rateG rows n = (0, 0, 2) by simp [rateG, h])
    clear h
    go_enter Try.func14, Try.ntmps14
    go_wp2_with (go_at_call 30; ((with_reducible refine (edges2 rows n _).mono ?_); rintro e w2 ⟨rfl, rfl⟩; rw [HE.out]))
    go_ret3
    exact ⟨by rw [HL.out]; rfl, by repeat (first | exact Ext.refl _ | assumption | refine Ext.alloc ?_ _ | refine Ext.drew ?_ | refine Ext.drewN ?_ _ | refine Ext.trans ?_ (by assumption))⟩
  · obtain ⟨r0, r1, n0, n1⟩ := edOk_e h
    obtain ⟨c, rfl⟩ := Int.eq_ofNat_of_zero_le (show 0 ≤ n by omega)
    obtain ⟨r, rfl⟩ := Int.eq_ofNat_of_zero_le (show 0 ≤ rows by omega)
    have HE := Lib.hid (show edB r c = 0 by simp [edB, h])
    have HL := Lib.hid (show rateG r c = ((c : Int) / (Nat.gcd r c : Int), (r : Int) / (Nat.gcd r c : Int), 0) by simp [rateG, h, gcdI])
    clear h
    go_enter Try.func14, Try.ntmps14
    go_wp2_with (go_at_call 30; ((with_reducible refine (edges2 r c _).mono ?_); rintro e w2 ⟨rfl, rfl⟩; rw [HE.out]))
    go_loopw [8, 9] (fun x y wr => ∃ a b : Nat, 1 ≤ a ∧ a ≤ 1000 ∧ b ≤ 1000 ∧ x = .int .i64 a ∧ y = .int .i64 b ∧ Hid (Nat.gcd a b = Nat.gcd r c) ∧ Hid (Ext w wr)) (fun _ y _ => (intOf y).toNat)
    case atStart => exact ⟨r, c, by omega, by omega, by omega, rfl, rfl, rfl, (Ext.refl _).alloc _⟩
    case round =>
      obtain ⟨a, b, ha, ha1, hb1, rfl, rfl, hg, hx⟩ := hrel
      by_cases hb : b = 0
      · subst hb
        have hga := hg.out
        rw [Nat.gcd_zero_right] at hga
        subst hga
        have q0 : 0 ≤ (c : Int) / (Nat.gcd r c : Int) := Int.ediv_nonneg (by omega) (by omega)
        have q1 : (c : Int) / (Nat.gcd r c : Int) ≤ c := Int.ediv_le_self _ (by omega)
        have q2 : 0 ≤ (r : Int) / (Nat.gcd r c : Int) := Int.ediv_nonneg (by omega) (by omega)
        have q3 : (r : Int) / (Nat.gcd r c : Int) ≤ r := Int.ediv_le_self _ (by omega)
        have E1 := Lib.hid (IntWalk.wrap64_in ((c : Int) / (Nat.gcd r c : Int)) (by omega))
        have E2 := Lib.hid (IntWalk.wrap64_in ((r : Int) / (Nat.gcd r c : Int)) (by omega))
        go_wp2_with fail
        go_quiet (fail)
        have := hx.out
        go_wp2
        go_ret3
        exact ⟨by rw [HL.out]; first | rfl | (rw [E1.out, E2.out]; rfl), by repeat (first | exact Ext.refl _ | assumption | refine Ext.alloc ?_ _ | refine Ext.drew ?_ | refine Ext.drewN ?_ _ | refine Ext.trans ?_ (by assumption))⟩
      · have hb0 : ((b : Int) != 0) = true := by rw [bne_iff_ne]; omega
        have hb2 : 1 ≤ b := by omega
        have hlt := Nat.mod_lt a (show b > 0 by omega)
        go_wp2_with fail
        go_quiet (fail)
        have := hx.out
        go_wp2
        go_roundw
        case rel => exact ⟨b, a % b, by omega, by omega, by omega, rfl, by go_num, gcd_step hg.out, by repeat (first | exact Ext.refl _ | assumption | refine Ext.alloc ?_ _ | refine Ext.drew ?_ | refine Ext.drewN ?_ _ | refine Ext.trans ?_ (by assumption))⟩
        case measure => simp [intOf]; omega

theorem marks_any (n c : Nat) (A : Option Addr) (l : List Int) (a : Int) (w : World) (hl : Ints w A n l) (hm : n ≤ maxLen) :
    Calls Try.prog 34 #[.slice A n c, .int .i64 a] w fun e w' => e = .returned (.bool (mkOk l a)) ∧ w = w' := by
  have HX := Lib.hid hl
  clear hl
  unfold maxLen at hm
  go_enter Try.func34, Try.ntmps34
  go_wp2_with fail
  go_loop [5, 10] (fun v i => ∃ k : Nat, k ≤ n ∧ i = .int .i64 k ∧ v = .int .i64 ((0 :: l).getD k 0) ∧ Hid (∀ j, j < k → mkAt l a j = true)) (fun _ i => n - (intOf i).toNat)
  case atStart => exact ⟨0, by omega, rfl, rfl, fun j hj => absurd hj (by omega)⟩
  case round =>
    obtain ⟨k, hk, rfl, rfl, hall⟩ := hrel
    by_cases hlt : k < n
    · obtain ⟨b, off, rfl, hb, hc⟩ := HX.out.2 (by omega)
      have h1 := hc k hlt
      have hs : (0 :: l).getD (k + 1) 0 = l.getD k 0 := by simp
      clear hc
      cases hr : mkAt l a k
      · have HB := Lib.hid (mkOk_bad HX.out.1 hlt hr)
        simp only [mkAt, Bool.and_eq_false_iff, decide_eq_false_iff_not] at hr
        clear hs
        generalize l.getD k 0 = x at *
        generalize (0 :: l).getD k 0 = y at *
        rcases hr with hr | hr
        · go_wp2
          go_ret
          exact ⟨by rw [HB.out]; rfl, rfl⟩
        · go_wp2
          all_goals
            go_ret
            exact ⟨by rw [HB.out]; rfl, rfl⟩
      · have HA := Lib.hid (show ∀ j, j < k + 1 → mkAt l a j = true from fun j hj => by
            by_cases e : j = k
            · subst e; exact hr
            · exact hall.out j (by omega))
        simp only [mkAt, Bool.and_eq_true, decide_eq_true_eq] at hr
        clear hall
        obtain ⟨n0, n1⟩ := hr
        have HS := Lib.hid hs
        clear hs
        generalize l.getD k 0 = x at *
        generalize (0 :: l).getD k 0 = y at *
        go_wp2
        go_round
        case rel => exact ⟨k + 1, by omega, by go_num, by rw [HS.out], HA⟩
        case measure => simp [intOf]; omega
    · obtain rfl : k = n := by omega
      have HB := Lib.hid (mkOk_ok HX.out.1 hall.out)
      go_wp2
      go_ret
      exact ⟨by rw [HB.out]; rfl, rfl⟩

set_option maxHeartbeats 400000 in
theorem section_any (W0 : World) (v : Value) (k : Nat) (L : List (Int × Int)) (x a y b : Int) (w : World) (hown : OwnV shPair w W0.heap.size 55 v k L) (hext : Ext W0 w) (hk : k ≤ 100000)
    (x0 : 0 ≤ x) (x1 : x ≤ 1000) (y0 : 0 ≤ y) (y1 : y ≤ 1000) (a0 : 1 ≤ a) (a1 : a ≤ 1000) (b0 : 1 ≤ b) (b1 : b ≤ 1000) :
    Calls Try.prog 35 #[v, .int .i64 x, .int .i64 a, .int .i64 y, .int .i64 b] w
      fun e w' => ∃ v', e = .returned v' ∧ OwnV shPair w' W0.heap.size 55 v' (k + (max a b).toNat) (L ++ secL x a y b) ∧ Ext W0 w' := by
  obtain ⟨m, hm⟩ := Int.eq_ofNat_of_zero_le (show 0 ≤ max a b by omega)
  have hm1 : (m : Int) ≤ 1000 := by omega
  have hm0 : (1 : Int) ≤ (m : Int) := by omega
  have HM := Lib.hid hm
  have HE := Lib.hid hext
  have hmx : ∀ (ts : Array TypeId) (t : TypeId) (w : World), (Builtin.max_ ts t #[.int .i64 a, .int .i64 b]).run Try.prog w = .ok (.int .i64 m) w := fun ts t w => by rw [run_max_i, hm]
  clear hext hm
  go_enter Try.func35, Try.ntmps35
  go_wp2_with fail
  clear hmx
  go_loopw [0, 17] (fun v i wr => ∃ j : Nat, j ≤ m ∧ i = .int .i64 j ∧ OwnV shPair wr W0.heap.size 55 v (k + j) (L ++ (List.range j).map (secV x a y b)) ∧ Hid (Ext W0 wr)) (fun _ i _ => m - (intOf i).toNat)
  case atStart => exact ⟨0, by omega, rfl, by simpa using hown, HE⟩
  case round =>
    obtain ⟨j, hj, rfl, hown1, hext⟩ := hrel
    by_cases hlt : j < m
    · obtain ⟨p0, p1⟩ := prod_bd (show 0 ≤ (j : Int) by omega) (show (j : Int) ≤ 1000 by omega) (show 0 ≤ a by omega) a1
      obtain ⟨q0, q1⟩ := prod_bd (show 0 ≤ (j : Int) by omega) (show (j : Int) ≤ 1000 by omega) (show 0 ≤ b by omega) b1
      have d0 : 0 ≤ (j : Int) * a / m := Int.ediv_nonneg p0 (by omega)
      have d1 : (j : Int) * a / m ≤ (j : Int) * a := Int.ediv_le_self _ p0
      have d2 : 0 ≤ (j : Int) * b / m := Int.ediv_nonneg q0 (by omega)
      have d3 : (j : Int) * b / m ≤ (j : Int) * b := Int.ediv_le_self _ q0
      have HV := Lib.hid (show secV x a y b j = (x + (j : Int) * a / m, y + (j : Int) * b / m) by rw [secV, HM.out])
      have f1 := IntWalk.i64_in ((j : Int) * a) (by omega)
      have f2 := IntWalk.i64_in ((j : Int) * b) (by omega)
      have f3 : ((j : Int) * a).tdiv m = (j : Int) * a / m := Int.tdiv_eq_ediv_of_nonneg p0
      have f4 : ((j : Int) * b).tdiv m = (j : Int) * b / m := Int.tdiv_eq_ediv_of_nonneg q0
      have f5 := IntWalk.i64_in ((j : Int) * a / m) (by omega)
      have f6 := IntWalk.i64_in ((j : Int) * b / m) (by omega)
      have f7 := IntWalk.i64_in (x + (j : Int) * a / m) (by omega)
      have f8 := IntWalk.i64_in (y + (j : Int) * b / m) (by omega)
      have f9 : ¬ m = 0 := by omega
      have hkj : k + j ≤ 1000000 := by omega
      go_wp2_with fail
      go_region_held3 (fun _ => True) (trivial) (first | (refine step_append_vec (S := shPair) 40 55 (.agg #[.int .i64 0, .int .i64 0]) 16 wr.heap.size (x + (j : Int) * a / m, y + (j : Int) * b / m) (by rfl) (by rfl) Try.underlying40 info_pair (by rfl) (by omega) (by rfl) (by rfl) ((hown1.alloc _).drew) ((hext.out.alloc _).drew) (pair_new _ _ _ _) hkj ?_; intro v' w1 hown2 hext2 _))
      clear f1 f2 f3 f4 f5 f6 f7 f8 f9
      go_wp2
      go_roundw
      case rel => exact ⟨j + 1, by omega, by go_num, by rw [map_range_succ, HV.out, ← List.append_assoc]; exact hown2, hext2⟩
      case measure => simp [intOf]; omega
    · obtain rfl : j = m := by omega
      go_wp2
      go_ret
      refine ⟨_, rfl, ?_, hext.out⟩
      rw [HM.out]
      unfold secL
      rw [HM.out]
      exact hown1

set_option maxHeartbeats 1000000 in
theorem marked_any (a b : Int) (n m c d : Nat) (A B : Option Addr) (am bm : List Int) (w : World) (hx : Ints w A n am) (hy : Ints w B m bm) (hn : n ≤ maxLen) (hm : m ≤ maxLen) :
    Calls Try.prog 19 #[.int .i64 a, .int .i64 b, .slice A n c, .slice B m d] w (PrsE w (mkdL a b am bm) (mkE a b am bm)) := by
  have HX := Lib.hid hx
  have HY := Lib.hid hy
  have hnl := hx.1
  have hml := hy.1
  clear hx hy
  have hnm : n ≤ 9223372036854775807 ∧ m ≤ 9223372036854775807 := by unfold maxLen at hn hm; omega
  obtain ⟨hn1, hm1⟩ := hnm
  have HN := Lib.hid hnl
  have HM := Lib.hid hml
  clear hnl hml
  cases h : edOk a b
  · have HE := Lib.hid (show edB a b = 2 by simp [edB, h])
    have hk : mkE a b am bm = 2 := by simp [mkE, h]
    clear h
    have HK := Lib.hid hk
    have HL := Lib.hid (show mkdL a b am bm = [] by rw [mkdL, hk, if_neg (by omega)])
    clear hk
    go_enter Try.func19, Try.ntmps19
    go_wp2_with (first | (go_at_call 30; ((with_reducible refine (edges2 a b _).mono ?_); rintro e w2 ⟨rfl, rfl⟩; rw [HE.out])))
    go_ret2
    exact PrsE.mk none 0 (by rw [HL.out, HK.out]; rfl) (by rw [HL.out]; exact Vec.none_ _ _ _) (by repeat (first | exact Ext.refl _ | assumption | refine Ext.alloc ?_ _ | refine Ext.drew ?_ | refine Ext.drewN ?_ _ | refine Ext.trans ?_ (by assumption)))
  have HE := Lib.hid (show edB a b = 0 by simp [edB, h])
  by_cases hc1 : 50 < n ∨ 50 < m
  · have hk : mkE a b am bm = 4 := by rw [mkE, if_pos h, if_pos (by rw [HN.out, HM.out]; exact hc1)]
    clear h
    rcases hc1 with hc1 | hc1
    · have HK := Lib.hid hk
      have HL := Lib.hid (show mkdL a b am bm = [] by rw [mkdL, hk, if_neg (by omega)])
      clear hk
      go_enter Try.func19, Try.ntmps19
      go_wp2_with (first | (go_at_call 30; ((with_reducible refine (edges2 a b _).mono ?_); rintro e w2 ⟨rfl, rfl⟩; rw [HE.out])))
      go_ret2
      exact PrsE.mk none 0 (by rw [HL.out, HK.out]; rfl) (by rw [HL.out]; exact Vec.none_ _ _ _) (by repeat (first | exact Ext.refl _ | assumption | refine Ext.alloc ?_ _ | refine Ext.drew ?_ | refine Ext.drewN ?_ _ | refine Ext.trans ?_ (by assumption)))
    · have HK := Lib.hid hk
      have HL := Lib.hid (show mkdL a b am bm = [] by rw [mkdL, hk, if_neg (by omega)])
      clear hk
      go_enter Try.func19, Try.ntmps19
      go_wp2_with (first | (go_at_call 30; ((with_reducible refine (edges2 a b _).mono ?_); rintro e w2 ⟨rfl, rfl⟩; rw [HE.out])))
      all_goals go_ret2
      all_goals exact PrsE.mk none 0 (by rw [HL.out, HK.out]; rfl) (by rw [HL.out]; exact Vec.none_ _ _ _) (by repeat (first | exact Ext.refl _ | assumption | refine Ext.alloc ?_ _ | refine Ext.drew ?_ | refine Ext.drewN ?_ _ | refine Ext.trans ?_ (by assumption)))
  have hc2 : n ≤ 50 ∧ m ≤ 50 := by omega
  obtain ⟨hc2, hc3⟩ := hc2
  cases h1 : mkOk am a
  · have hk : mkE a b am bm = 8 := by rw [mkE, if_pos h, if_neg (by rw [HN.out, HM.out]; exact hc1), h1]; rfl
    clear h
    have HK := Lib.hid hk
    have HL := Lib.hid (show mkdL a b am bm = [] by rw [mkdL, hk, if_neg (by omega)])
    clear hk
    go_enter Try.func19, Try.ntmps19
    go_wp2_with (first | (go_at_call 30; ((with_reducible refine (edges2 a b _).mono ?_); rintro e w2 ⟨rfl, rfl⟩; rw [HE.out])) | (first | (go_at_call 34; ((with_reducible refine (marks_any n c A am a _ (Ints.ext HX.out ((Ext.refl _).alloc _)) hn).mono ?_); rintro e w3 ⟨rfl, rfl⟩)) | (go_at_call 34; ((with_reducible refine (marks_any m d B bm b _ (Ints.ext HY.out ((Ext.refl _).alloc _)) hm).mono ?_); rintro e w3 ⟨rfl, rfl⟩))))
    go_ret2
    exact PrsE.mk none 0 (by rw [HL.out, HK.out]; rfl) (by rw [HL.out]; exact Vec.none_ _ _ _) (by repeat (first | exact Ext.refl _ | assumption | refine Ext.alloc ?_ _ | refine Ext.drew ?_ | refine Ext.drewN ?_ _ | refine Ext.trans ?_ (by assumption)))
  cases h2 : mkOk bm b
  · have hk : mkE a b am bm = 8 := by rw [mkE, if_pos h, if_neg (by rw [HN.out, HM.out]; exact hc1), h2, Bool.and_false]; rfl
    clear h
    have HK := Lib.hid hk
    have HL := Lib.hid (show mkdL a b am bm = [] by rw [mkdL, hk, if_neg (by omega)])
    clear hk
    go_enter Try.func19, Try.ntmps19
    go_wp2_with (first | (go_at_call 30; ((with_reducible refine (edges2 a b _).mono ?_); rintro e w2 ⟨rfl, rfl⟩; rw [HE.out])) | (first | (go_at_call 34; ((with_reducible refine (marks_any n c A am a _ (Ints.ext HX.out ((Ext.refl _).alloc _)) hn).mono ?_); rintro e w3 ⟨rfl, rfl⟩)) | (go_at_call 34; ((with_reducible refine (marks_any m d B bm b _ (Ints.ext HY.out ((Ext.refl _).alloc _)) hm).mono ?_); rintro e w3 ⟨rfl, rfl⟩))))
    go_ret2
    exact PrsE.mk none 0 (by rw [HL.out, HK.out]; rfl) (by rw [HL.out]; exact Vec.none_ _ _ _) (by repeat (first | exact Ext.refl _ | assumption | refine Ext.alloc ?_ _ | refine Ext.drew ?_ | refine Ext.drewN ?_ _ | refine Ext.trans ?_ (by assumption)))
  by_cases hc4 : n = m
  · subst hc4
    have hk : mkE a b am bm = 0 := by rw [mkE, if_pos h, if_neg (by rw [HN.out, HM.out]; exact hc1), h1, h2, Bool.and_true, if_pos rfl, if_pos (by rw [HN.out, HM.out])]
    have HK := Lib.hid hk
    have HL := Lib.hid (show mkdL a b am bm = mkdN a b am bm (n + 1) by rw [mkdL, hk, if_pos rfl, HN.out])
    obtain ⟨a0, a1, b0, b1⟩ := edOk_e h
    clear h hk
    go_enter Try.func19, Try.ntmps19
    go_wp2_with (first | (go_at_call 30; ((with_reducible refine (edges2 a b _).mono ?_); rintro e w2 ⟨rfl, rfl⟩; rw [HE.out])) | (first | (go_at_call 34; ((with_reducible refine (marks_any n c A am a _ (Ints.ext HX.out ((Ext.refl _).alloc _)) hn).mono ?_); rintro e w3 ⟨rfl, rfl⟩)) | (go_at_call 34; ((with_reducible refine (marks_any n d B bm b _ (Ints.ext HY.out ((Ext.refl _).alloc _)) hm).mono ?_); rintro e w3 ⟨rfl, rfl⟩))))
    go_loopw [11, 12, 13, 48] (fun v x y i wr => ∃ k : Nat, k ≤ n ∧ i = .int .i64 k ∧ x = .int .i64 (pm am k) ∧ y = .int .i64 (pm bm k) ∧ OwnV shPair wr w.heap.size 55 v (mkdN a b am bm k).length (mkdN a b am bm k) ∧ Hid (Ext w wr)) (fun _ _ _ i _ => n - (intOf i).toNat)
    case atStart => exact ⟨0, by omega, rfl, rfl, rfl, OwnV.nil _ _ _ _, (Ext.refl _).alloc _⟩
    case round =>
      obtain ⟨k, hk, rfl, rfl, rfl, hown, hext⟩ := hrel
      have hlen := mkdN_len HK.out k (by rw [HN.out]; omega)
      have s1 := sect_bd a0 h1 k (by rw [HN.out]; omega)
      have s2 := sect_bd b0 h2 k (by rw [HM.out]; omega)
      by_cases hlt : k < n
      · have hS := mkdS_is HK.out (i := k) (by rw [HN.out]; exact hlt)
        have hN := mkdN_succ a b am bm k
        have hl := congrArg List.length hN
        rw [List.length_append, hS, secL_len] at hl
        rw [hS] at hN
        have hp1 := pm_succ am k
        have hp2 := pm_succ bm k
        rw [cm_lt a (by rw [HN.out]; exact hlt)] at s1
        rw [cm_lt b (by rw [HM.out]; exact hlt)] at s2
        obtain ⟨A1, o1, rfl, hb1, hc1⟩ := HX.out.2 (by omega)
        obtain ⟨A2, o2, rfl, hb2, hc2⟩ := HY.out.2 (by omega)
        have hd1 := (Below.cell (p := ⟨A1, o1 + k, none⟩) hext.out hb1).trans (hc1 k hlt)
        have hd2 := (Below.cell (p := ⟨A2, o2 + k, none⟩) hext.out hb2).trans (hc2 k hlt)
        have HD := Lib.hid (hc2 k hlt)
        clear hc1 hc2 hS
        have hi0 : (0 : Int) ≤ (k : Int) := by omega
        have hi1 : (k : Int) < (n : Int) := by omega
        generalize am.getD k 0 = u at *
        generalize bm.getD k 0 = v at *
        generalize pm am k = x at *
        generalize pm bm k = y at *
        have HP1 := Lib.hid hp1
        have HP2 := Lib.hid hp2
        have HN1 := Lib.hid hN
        have HL1 := Lib.hid hl
        clear hp1 hp2 hN hl
        go_wp2_with (go_at_call 35; ((with_reducible refine (section_any w _ _ _ x (u - x) y (v - y) _ hown hext.out (by omega) (by omega) (by omega) (by omega) (by omega) (by omega) (by omega) (by omega) (by omega)).mono ?_); rintro e w4 ⟨v', rfl, hown1, hext1⟩))
        have hd3 := (Below.cell (p := ⟨A2, o2 + k, none⟩) hext1 hb2).trans HD.out
        have H1 := Lib.hid hown1
        clear hown1 hown hd1 hd2
        go_quiet (fail)
        go_wp2
        go_roundw
        case rel => exact ⟨k + 1, by omega, by go_num, by rw [HP1.out], by rw [HP2.out], by rw [HN1.out, List.length_append, secL_len]; exact H1.out, by repeat (first | exact Ext.refl _ | assumption | refine Ext.alloc ?_ _ | refine Ext.drew ?_ | refine Ext.drewN ?_ _ | refine Ext.trans ?_ (by assumption))⟩
        case measure => simp [intOf]; omega
      · obtain rfl : k = n := by omega
        have hS := mkdS_fin HK.out
        have hN := mkdN_succ a b am bm am.length
        rw [hS, HN.out] at hN
        rw [show cm am a k = a by rw [← HN.out, cm_end]] at s1
        rw [show cm bm b k = b by rw [← HM.out, cm_end]] at s2
        have hl := congrArg List.length hN
        rw [List.length_append, secL_len] at hl
        generalize pm am k = x at *
        generalize pm bm k = y at *
        have HN1 := Lib.hid hN
        have HL1 := Lib.hid hl
        clear hN hl hS
        go_wp2_with (go_at_call 35; ((with_reducible refine (section_any w _ _ _ x (a - x) y (b - y) _ hown hext.out (by omega) (by omega) (by omega) (by omega) (by omega) (by omega) (by omega) (by omega) (by omega)).mono ?_); rintro e w4 ⟨v', rfl, hown1, hext1⟩))
        obtain ⟨A', c', rfl, hv⟩ := own_vec hown1
        go_ret2
        refine PrsE.mk A' c' ?_ ?_ hext1
        · rw [HL.out, HL1.out, HK.out]; rfl
        · rw [HL.out, HL1.out, HN1.out]; exact hv
  · have hk : mkE a b am bm = 26 := by rw [mkE, if_pos h, if_neg (by rw [HN.out, HM.out]; exact hc1), h1, h2, Bool.and_true, if_pos rfl, if_neg (by rw [HN.out, HM.out]; exact hc4)]
    clear h
    have hne : ((n : Int) != (m : Int)) = true := by rw [bne_iff_ne]; omega
    have HK := Lib.hid hk
    have HL := Lib.hid (show mkdL a b am bm = [] by rw [mkdL, hk, if_neg (by omega)])
    clear hk
    go_enter Try.func19, Try.ntmps19
    go_wp2_with (first | (go_at_call 30; ((with_reducible refine (edges2 a b _).mono ?_); rintro e w2 ⟨rfl, rfl⟩; rw [HE.out])) | (first | (go_at_call 34; ((with_reducible refine (marks_any n c A am a _ (Ints.ext HX.out ((Ext.refl _).alloc _)) hn).mono ?_); rintro e w3 ⟨rfl, rfl⟩)) | (go_at_call 34; ((with_reducible refine (marks_any m d B bm b _ (Ints.ext HY.out ((Ext.refl _).alloc _)) hm).mono ?_); rintro e w3 ⟨rfl, rfl⟩))))
    go_ret2
    exact PrsE.mk none 0 (by rw [HL.out, HK.out]; rfl) (by rw [HL.out]; exact Vec.none_ _ _ _) (by repeat (first | exact Ext.refl _ | assumption | refine Ext.alloc ?_ _ | refine Ext.drew ?_ | refine Ext.drewN ?_ _ | refine Ext.trans ?_ (by assumption)))


theorem join_any (a b : Int) (w : World) : Calls Try.prog 17 #[.int .i64 a, .int .i64 b] w (PrsE w (joinL a b) (edB a b)) := by
  have h := marked_any a b 0 0 0 0 none none [] [] w (Ints.none_ _ _) (Ints.none_ _ _) (by unfold maxLen; omega) (by unfold maxLen; omega)
  rw [mkdL_nil, mkE_nil] at h
  go_enter Try.func17, Try.ntmps17
  go_wp2_with (go_at_call 19; ((with_reducible refine (h).mono ?_); rintro e w1 ⟨A, cap, rfl, hv, hq⟩))
  go_ret2
  exact PrsE.mk A cap rfl hv hq
end Go.Proofs.Ytepegahgiciegaa
