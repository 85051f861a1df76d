/- The contracts of the reference of slope. -/
import Derived.Test.YtegfmojjajoncaaSlopeC
import Derived.StillTailTactics
namespace Go.Proofs.Ytegfmojjajoncaa
open Go.RowKit

theorem rspread_any (rows changes : Int) (w : World) :
    Calls Try.prog 28 #[.int .i64 rows, .int .i64 changes] w fun e w' => e = .returned (.int .i64 (spE rows changes)) ∧ w = w' := by
  cases h1 : inR rows 1 1000
  · have hd : rows < 1 ∨ 1 ≤ rows ∧ 1000 < rows := by have := inR_n h1; omega
    have HE := Lib.hid (show spE rows changes = 2 by simp [spE, spOk, h1])
    rcases hd with hd | ⟨hd, hd2⟩
    all_goals
      go_enter Try.func28, Try.ntmps28
      go_wp2
      go_ret
      exact ⟨by rw [HE.out]; rfl, rfl⟩
  · obtain ⟨a0, a1⟩ := inR_e h1
    cases h2 : inR changes 1 rows
    · have hd : changes < 1 ∨ 1 ≤ changes ∧ rows < changes := by have := inR_n h2; omega
      have HE := Lib.hid (show spE rows changes = 2 by simp [spE, spOk, h1, h2])
      rcases hd with hd | ⟨hd, hd2⟩
      all_goals
        go_enter Try.func28, Try.ntmps28
        go_wp2
        go_ret
        exact ⟨by rw [HE.out]; rfl, rfl⟩
    · obtain ⟨b0, b1⟩ := inR_e h2
      have HE := Lib.hid (show spE rows changes = 0 by simp [spE, spOk, h1, h2])
      go_enter Try.func28, Try.ntmps28
      go_wp2
      go_ret
      exact ⟨by rw [HE.out]; rfl, rfl⟩

theorem rin_any (n : Int) (w : World) :
    Calls Try.prog 33 #[.int .i64 n] w fun e w' => e = .returned (.bool (inR n (-1000) 1000)) ∧ w = w' := by
  by_cases h : -1000 ≤ n
  · go_enter Try.func33, Try.ntmps33
    go_wp2
    go_ret
    exact ⟨by simp [inR, h], rfl⟩
  · go_enter Try.func33, Try.ntmps33
    go_wp2
    go_ret
    exact ⟨by rw [inR_f (by omega)]; rfl, rfl⟩

theorem rmarks_any (rows changes : Int) (w : World) :
    Calls Try.prog 11 #[.int .i64 rows, .int .i64 changes] w
      fun e w' => ∃ A cap, e = .returned (.tuple #[.slice A (marksL rows changes).length cap, .int .i64 (spE rows changes)]) ∧ Ints w' A (marksL rows changes).length (marksL rows changes) ∧ Ext w w' := by
  obtain ⟨i0, hi, hz0, hz1, hz2⟩ := info_parts info_int
  cases h : spOk rows changes
  · have he : spE rows changes = 2 := by simp [spE, h]
    have HL := Lib.hid (show marksL rows changes = [] by simp [marksL, h])
    go_enter Try.func11, Try.ntmps11
    go_wp2_with (go_at_call 28; refine (rspread_any _ _ _).mono ?_; rintro e w2 ⟨rfl, rfl⟩)
    go_ret2
    exact ⟨none, 0, by rw [HL.out, he]; rfl, by rw [HL.out]; exact Ints.none_ _ _, by repeat (first | exact Ext.refl _ | refine Ext.alloc ?_ _ | refine Ext.drew ?_ | refine Ext.drewN ?_ _ | refine Ext.trans ?_ (by assumption))⟩
  · obtain ⟨r0, r1, c0, c1⟩ := spOk_e h
    obtain ⟨c, rfl⟩ := Int.eq_ofNat_of_zero_le (show 0 ≤ changes by omega)
    have he : spE rows c = 0 := by simp [spE, h]
    have HL := Lib.hid (show marksL rows c = (List.range c).map (markV rows c) by simp [marksL, h])
    go_enter Try.func11, Try.ntmps11
    go_wp2_with (go_at_call 28; refine (rspread_any _ _ _).mono ?_; rintro e w2 ⟨rfl, rfl⟩)
    go_loopw [6, 7] (fun v i wr => ∃ k : Nat, k ≤ c ∧ i = .int .i64 k ∧ OwnI wr w.heap.size 3 v k ((List.range k).map (markV rows c)) ∧ Hid (Ext w wr)) (fun _ i _ => c - (intOf i).toNat)
    case atStart => exact ⟨0, by omega, rfl, OwnI.nil _ _ _, Ext.refl _⟩
    case round =>
      obtain ⟨k, hk, rfl, hown, hext⟩ := hrel
      by_cases hlt : k < c
      · obtain ⟨p0, p1⟩ := prod_bd (show 0 ≤ 2 * (k : Int) + 1 by omega) (show 2 * (k : Int) + 1 ≤ 2001 by omega) (show 0 ≤ rows by omega) r1
        go_wp2_with (at_builtin; refine wpList_append_int 22 3 wr.heap.size (markV rows c k) rfl rfl Try.underlying22 info_int rfl rfl (hown.alloc _) (hext.out.alloc _) ?c1 ?c2 ?_)
        case c1 => simp [go_sem, markV]
        case c2 => omega
        intro v' w1 hown1 hext1
        clear hown hext
        go_wp2
        go_roundw
        case rel => exact ⟨k + 1, by omega, by go_num, by rw [map_range_succ]; exact hown1, hext1⟩
        case measure => simp [intOf]; omega
      · obtain rfl : k = c := by omega
        obtain ⟨A, cap, rfl, hints⟩ := own_ints hown
        have HI := Lib.hid hints
        clear hints hown
        go_wp2
        go_ret2
        exact ⟨A, cap, by rw [HL.out, List.length_map, List.length_range, he]; rfl, by rw [HL.out, List.length_map, List.length_range]; exact HI.out, hext.out⟩

theorem rgaps_any (rows changes : Int) (w : World) :
    Calls Try.prog 13 #[.int .i64 rows, .int .i64 changes] w
      fun e w' => ∃ A cap, e = .returned (.tuple #[.slice A (gapsL rows changes).length cap, .int .i64 (spE rows changes)]) ∧ Ints w' A (gapsL rows changes).length (gapsL rows changes) ∧ Ext w w' := by
  cases h : spOk rows changes
  · have he : spE rows changes = 2 := by simp [spE, h]
    have HL := Lib.hid (show gapsL rows changes = [] by simp [gapsL, h])
    go_enter Try.func13, Try.ntmps13
    go_wp2_with (go_at_call 28; refine (rspread_any _ _ _).mono ?_; rintro e w2 ⟨rfl, rfl⟩)
    go_ret2
    exact ⟨none, 0, by rw [HL.out, he]; rfl, by rw [HL.out]; exact Ints.none_ _ _, by repeat (first | exact Ext.refl _ | refine Ext.alloc ?_ _ | refine Ext.drew ?_ | refine Ext.drewN ?_ _ | refine Ext.trans ?_ (by assumption))⟩
  · obtain ⟨r0, r1, c0, c1⟩ := spOk_e h
    obtain ⟨c, rfl⟩ := Int.eq_ofNat_of_zero_le (show 0 ≤ changes by omega)
    have he : spE rows c = 0 := by simp [spE, h]
    have HL := Lib.hid (show gapsL rows c = (List.range c).map (gapV rows c) by simp [gapsL, h])
    go_enter Try.func13, Try.ntmps13
    go_wp2_with (go_at_call 28; refine (rspread_any _ _ _).mono ?_; rintro e w2 ⟨rfl, rfl⟩)
    go_loopw [6, 7] (fun v i wr => ∃ k : Nat, k ≤ c ∧ i = .int .i64 k ∧ OwnI wr w.heap.size 3 v k ((List.range k).map (gapV rows c)) ∧ Hid (Ext w wr)) (fun _ i _ => c - (intOf i).toNat)
    case atStart => exact ⟨0, by omega, rfl, OwnI.nil _ _ _, Ext.refl _⟩
    case round =>
      obtain ⟨k, hk, rfl, hown, hext⟩ := hrel
      by_cases hlt : k < c
      · obtain ⟨p0, p1⟩ := prod_bd (show 0 ≤ (k : Int) + 1 by omega) (show (k : Int) + 1 ≤ 1001 by omega) (show 0 ≤ rows by omega) r1
        obtain ⟨q0, q1⟩ := prod_bd (show 0 ≤ (k : Int) by omega) (show (k : Int) ≤ 1000 by omega) (show 0 ≤ rows by omega) r1
        have d0 : 0 ≤ ((k : Int) + 1) * rows / c := Int.ediv_nonneg (by omega) (by omega)
        have d1 : ((k : Int) + 1) * rows / c ≤ ((k : Int) + 1) * rows := Int.ediv_le_self _ (by omega)
        have d2 : 0 ≤ (k : Int) * rows / c := Int.ediv_nonneg (by omega) (by omega)
        have d3 : (k : Int) * rows / c ≤ (k : Int) * rows := Int.ediv_le_self _ (by omega)
        have f1 := IntWalk.i64_in ((k : Int) + 1) (by omega)
        have f2 := IntWalk.i64_in (((k : Int) + 1) * rows) (by omega)
        have f3 := IntWalk.i64_in ((k : Int) * rows) (by omega)
        have f4 : (((k : Int) + 1) * rows).tdiv c = ((k : Int) + 1) * rows / c := Int.tdiv_eq_ediv_of_nonneg p0
        have f5 : ((k : Int) * rows).tdiv c = (k : Int) * rows / c := Int.tdiv_eq_ediv_of_nonneg q0
        have f6 := IntWalk.i64_in (((k : Int) + 1) * rows / c) (by omega)
        have f7 := IntWalk.i64_in ((k : Int) * rows / c) (by omega)
        have f8 := IntWalk.i64_in (((k : Int) + 1) * rows / c - (k : Int) * rows / c) (by omega)
        have f9 : ¬ c = 0 := by omega
        go_wp2_with fail
        go_region_held3 (fun _ => True) (trivial) (first | (refine step_append_int 22 3 wr.heap.size (gapV rows c k) (by rfl) (by rfl) Try.underlying22 info_int (by rfl) (by rfl) ((hown.alloc _).drew) ((hext.out.alloc _).drew) (by simp [go_sem, gapV]) (by omega) ?_; intro v' w1 hown1 hext1 _))
        clear hown hext f1 f2 f3 f4 f5 f6 f7 f8 f9
        go_wp2
        go_roundw
        case rel => exact ⟨k + 1, by omega, by go_num, by rw [map_range_succ]; exact hown1, hext1⟩
        case measure => simp [intOf]; omega
      · obtain rfl : k = c := by omega
        obtain ⟨A, cap, rfl, hints⟩ := own_ints hown
        have HI := Lib.hid hints
        clear hints hown
        go_wp2
        go_ret2
        exact ⟨A, cap, by rw [HL.out, List.length_map, List.length_range, he]; rfl, by rw [HL.out, List.length_map, List.length_range]; exact HI.out, hext.out⟩

theorem down_any (a b : Int) (w : World) (a0 : -10000000 ≤ a) (a1 : a ≤ 10000000) (b0 : 1 ≤ b) (b1 : b ≤ 10000) :
    Calls Try.prog 34 #[.int .i64 a, .int .i64 b] w fun e w' => e = .returned (.int .i64 (a / b)) ∧ w = w' := by
  by_cases h : 0 ≤ a
  · go_enter Try.func34, Try.ntmps34
    go_wp2
    go_ret
    exact ⟨rfl, rfl⟩
  · obtain ⟨q0, q1, q2, q3, q4, q5⟩ := tdiv_neg (show a < 0 by omega) b0
    by_cases he : a.tdiv b * b = a
    · have HD := Lib.hid (q0 he)
      clear q0 q1
      go_enter Try.func34, Try.ntmps34
      go_wp2
      go_ret
      exact ⟨by rw [HD.out]; rfl, rfl⟩
    · have HD := Lib.hid (q1 he)
      clear q0 q1
      go_enter Try.func34, Try.ntmps34
      go_wp2
      go_ret
      exact ⟨by rw [HD.out]; rfl, rfl⟩

theorem rline_any (a b rows : Int) (w : World) :
    Calls Try.prog 18 #[.int .i64 a, .int .i64 b, .int .i64 rows] w
      fun e w' => ∃ A cap, e = .returned (.tuple #[.slice A (lineL a b rows).length cap, .int .i64 (lnE a b rows)]) ∧ Ints w' A (lineL a b rows).length (lineL a b rows) ∧ Ext w w' := by
  have RIN : True := trivial
  cases h1 : inR a (-1000) 1000
  · have h := lnOk_a b rows h1
    have he : lnE a b rows = 2 := by simp [lnE, h]
    have HL := Lib.hid (show lineL a b rows = [] by simp [lineL, h])
    go_enter Try.func18, Try.ntmps18
    go_wp2_with (go_at_call 33; refine (rin_any _ _).mono ?_; rintro e w2 ⟨rfl, rfl⟩)
    go_ret2
    exact ⟨none, 0, by rw [HL.out, he]; rfl, by rw [HL.out]; exact Ints.none_ _ _, by repeat (first | exact Ext.refl _ | refine Ext.alloc ?_ _ | refine Ext.drew ?_ | refine Ext.drewN ?_ _ | refine Ext.trans ?_ (by assumption))⟩
  cases h2 : inR b (-1000) 1000
  · have h := lnOk_b a rows h2
    have he : lnE a b rows = 2 := by simp [lnE, h]
    have HL := Lib.hid (show lineL a b rows = [] by simp [lineL, h])
    go_enter Try.func18, Try.ntmps18
    go_wp2_with (go_at_call 33; refine (rin_any _ _).mono ?_; rintro e w2 ⟨rfl, rfl⟩)
    go_ret2
    exact ⟨none, 0, by rw [HL.out, he]; rfl, by rw [HL.out]; exact Ints.none_ _ _, by repeat (first | exact Ext.refl _ | refine Ext.alloc ?_ _ | refine Ext.drew ?_ | refine Ext.drewN ?_ _ | refine Ext.trans ?_ (by assumption))⟩
  cases h3 : inR rows 1 1000
  · have h := lnOk_c a b h3
    have he : lnE a b rows = 2 := by simp [lnE, h]
    have HL := Lib.hid (show lineL a b rows = [] by simp [lineL, h])
    have hd : rows < 1 ∨ 1 ≤ rows ∧ 1000 < rows := by have := inR_n h3; omega
    rcases hd with hd | ⟨hd, hd2⟩
    all_goals
      go_enter Try.func18, Try.ntmps18
      go_wp2_with (go_at_call 33; refine (rin_any _ _).mono ?_; rintro e w2 ⟨rfl, rfl⟩)
      go_ret2
      exact ⟨none, 0, by rw [HL.out, he]; rfl, by rw [HL.out]; exact Ints.none_ _ _, by repeat (first | exact Ext.refl _ | refine Ext.alloc ?_ _ | refine Ext.drew ?_ | refine Ext.drewN ?_ _ | refine Ext.trans ?_ (by assumption))⟩
  have h : lnOk a b rows = true := by simp [lnOk, h1, h2, h3]
  obtain ⟨a0, a1, b0, b1, r0, r1⟩ := lnOk_e h
  obtain ⟨r, rfl⟩ := Int.eq_ofNat_of_zero_le (show 0 ≤ rows by omega)
  have he : lnE a b r = 0 := by simp [lnE, h]
  have HL := Lib.hid (show lineL a b r = (List.range (r + 1)).map (fun i : Nat => atV a b r (i : Int)) by simp [lineL, h])
  go_enter Try.func18, Try.ntmps18
  go_wp2_with (go_at_call 33; refine (rin_any _ _).mono ?_; rintro e w2 ⟨rfl, rfl⟩)
  go_loopw [8, 9] (fun v i wr => ∃ k : Nat, k ≤ r + 1 ∧ i = .int .i64 k ∧ OwnI wr w.heap.size 3 v k ((List.range k).map (fun i : Nat => atV a b r (i : Int))) ∧ Hid (Ext w wr)) (fun _ i _ => r + 1 - (intOf i).toNat)
  case atStart => exact ⟨0, by omega, rfl, OwnI.nil _ _ _, Ext.refl _⟩
  case round =>
    obtain ⟨k, hk, rfl, hown, hext⟩ := hrel
    by_cases hlt : k < r + 1
    · have hm := mul_bd (a := 2 * (b - a)) (k := k) (r := r) (by omega) (by omega) (by omega) (by omega)
      obtain ⟨p0, p1⟩ := hm
      have HV := Lib.hid (at_down (a := a) (b := b) (r := r) (k := k) (by omega))
      obtain ⟨q0, q1⟩ := at_bd (a := a) (b := b) (r := r) (k := k) a0 a1 b0 b1 (by omega) (by omega)
      go_wp2_with (first | (go_at_call 34; refine (down_any _ _ _ (by omega) (by omega) (by omega) (by omega)).mono ?_; rintro e w2 ⟨rfl, rfl⟩) | (at_builtin; refine wpList_append_int 22 3 wr.heap.size (atV a b r k) rfl rfl Try.underlying22 info_int rfl rfl (hown.alloc _) (hext.out.alloc _) ?c1 ?c2 ?_))
      case c1 => simp [go_sem, HV.out]
      case c2 => omega
      intro v' w1 hown1 hext1
      clear hown hext
      go_wp2
      go_roundw
      case rel => exact ⟨k + 1, by omega, by go_num, by rw [map_range_succ]; exact hown1, hext1⟩
      case measure => simp [intOf]; omega
    · obtain rfl : k = r + 1 := by omega
      obtain ⟨A, cap, rfl, hints⟩ := own_ints hown
      have HI := Lib.hid hints
      clear hints hown
      go_wp2
      go_ret2
      exact ⟨A, cap, by rw [HL.out, List.length_map, List.length_range, he]; rfl, by rw [HL.out, List.length_map, List.length_range]; exact HI.out, hext.out⟩

theorem reven_any (a b rows : Int) (w : World) :
    Calls Try.prog 20 #[.int .i64 a, .int .i64 b, .int .i64 rows] w
      fun e w' => ∃ A cap, e = .returned (.tuple #[.slice A (evenL a b rows).length cap, .int .i64 (lnE a b rows)]) ∧ Ints w' A (evenL a b rows).length (evenL a b rows) ∧ Ext w w' := by
  cases h : lnOk a b rows
  · have he : lnE a b rows = 2 := by simp [lnE, h]
    have HL := Lib.hid (show evenL a b rows = [] by simp [evenL, h])
    go_enter Try.func20, Try.ntmps20
    go_wp2_with (go_at_call 18; refine (rline_any _ _ _ _).mono ?_; rintro e w1 ⟨A, cap, rfl, hi, hb⟩)
    go_ret2
    exact ⟨none, 0, by rw [HL.out, he]; rfl, by rw [HL.out]; exact Ints.none_ _ _, by repeat (first | exact Ext.refl _ | refine Ext.alloc ?_ _ | refine Ext.drew ?_ | refine Ext.drewN ?_ _ | refine Ext.trans ?_ (by assumption))⟩
  obtain ⟨a0, a1, b0, b1, r0, r1⟩ := lnOk_e h
  obtain ⟨r, rfl⟩ := Int.eq_ofNat_of_zero_le (show 0 ≤ rows by omega)
  have he : lnE a b r = 0 := by simp [lnE, h]
  have HL := Lib.hid (show evenL a b r = (List.range (r + 1)).map (evenV a b r) by simp [evenL, h])
  have HM := Lib.hid (show lineL a b r = (List.range (r + 1)).map (fun i : Nat => atV a b r (i : Int)) by simp [lineL, h])
  have hR := rline_any a b r w
  rw [HM.out, List.length_map, List.length_range, he] at hR
  have HR := Lib.hid hR
  clear hR
  go_enter Try.func20, Try.ntmps20
  go_wp2_with (go_at_call 18; refine HR.out.mono ?_; rintro e w1 ⟨A, cap, rfl, hi, hb⟩)
  obtain ⟨bb, off, rfl, hbb, hcell⟩ := hi.2 (by omega)
  have HI := Lib.hid hcell
  have HB := Lib.hid hb
  clear hi hcell hb
  go_loopw [10, 11] (fun v i wr => ∃ k : Nat, k ≤ r + 1 ∧ i = .int .i64 k ∧ OwnI wr w1.heap.size 3 v k ((List.range k).map (evenV a b r)) ∧ Hid (Ext w1 wr)) (fun _ i _ => r + 1 - (intOf i).toNat)
  case atStart => exact ⟨0, by omega, rfl, OwnI.nil _ _ _, Ext.refl _⟩
  case round =>
    obtain ⟨k, hk, rfl, hown, hext⟩ := hrel
    by_cases hlt : k < r + 1
    · by_cases hodd : k % 2 = 1 ∧ k < r
      · obtain ⟨m, rfl⟩ : ∃ m, k = m + 1 := ⟨k - 1, by omega⟩
        obtain ⟨ho1, ho2⟩ := hodd
        have hck := (Below.cell (p := ⟨bb, off + m, none⟩) hext.out hbb).trans (HI.out m (by omega))
        rw [line_get (by omega), ← even_odd a b ho1 ho2] at hck
        have hmod : (((m : Int) + 1) % 2 == 1) = true := by simp; omega
        go_wp2_with (at_builtin; refine wpList_append_int 22 3 wr.heap.size (evenV a b r (m + 1)) rfl rfl Try.underlying22 info_int rfl rfl (hown.alloc _) (hext.out.alloc _) ?c1 ?c2 ?_)
        case c1 => simp [go_sem]
        case c2 => omega
        intro v' w3 hown1 hext1
        clear hown hext
        go_wp2
        go_roundw
        case rel => exact ⟨m + 1 + 1, by omega, by go_num, by rw [map_range_succ, map_range_succ, List.append_assoc]; exact hown1, hext1⟩
        case measure => simp [intOf]; omega
      · have hck := (Below.cell (p := ⟨bb, off + k, none⟩) hext.out hbb).trans (HI.out k (by omega))
        rw [line_get (by omega), ← even_even a b (by omega) hodd] at hck
        rcases (show (((k : Int) % 2 == 1) = false) ∨ (((k : Int) % 2 == 1) = true ∧ r ≤ k) from par_cases hodd) with hmod | ⟨hmod, hrk⟩
        · go_wp2_with (at_builtin; refine wpList_append_int 22 3 wr.heap.size (evenV a b r k) rfl rfl Try.underlying22 info_int rfl rfl (hown.alloc _) (hext.out.alloc _) ?c3 ?c4 ?_)
          case c3 => simp [go_sem]
          case c4 => omega
          intro v' w3 hown1 hext1
          clear hown hext
          go_wp2
          go_roundw
          case rel => exact ⟨k + 1, by omega, by go_num, by rw [map_range_succ]; exact hown1, hext1⟩
          case measure => simp [intOf]; omega
        · go_wp2_with (at_builtin; refine wpList_append_int 22 3 wr.heap.size (evenV a b r k) rfl rfl Try.underlying22 info_int rfl rfl (hown.alloc _) (hext.out.alloc _) ?c5 ?c6 ?_)
          case c5 => simp [go_sem]
          case c6 => omega
          intro v' w3 hown1 hext1
          clear hown hext
          go_wp2
          go_roundw
          case rel => exact ⟨k + 1, by omega, by go_num, by rw [map_range_succ]; exact hown1, hext1⟩
          case measure => simp [intOf]; omega
    · obtain rfl : k = r + 1 := by omega
      obtain ⟨A, cap', rfl, hints⟩ := own_ints hown
      have HI2 := Lib.hid hints
      clear hints hown
      go_wp2
      go_ret2
      exact ⟨A, cap', by rw [HL.out, List.length_map, List.length_range, he]; rfl, by rw [HL.out, List.length_map, List.length_range]; exact HI2.out, Ext.trans HB.out hext.out⟩

theorem rwords_any (rows changes : Int) (w : World) :
    Calls Try.prog 15 #[.int .i64 rows, .int .i64 changes] w
      fun e w' => e = .returned (.tuple #[.agg #[.int .i64 (words rows changes).1, .int .i64 (words rows changes).2.1, .int .i64 (words rows changes).2.2], .int .i64 (spE rows changes)]) ∧ Ext w w' := by
  cases h : spOk rows changes
  · have he : spE rows changes = 2 := by simp [spE, h]
    have HL := Lib.hid (show words rows changes = (0, 0, 0) by simp [words, h])
    go_enter Try.func15, Try.ntmps15
    go_wp2_with (go_at_call 28; refine (rspread_any _ _ _).mono ?_; rintro e w2 ⟨rfl, rfl⟩)
    exact bodyPost_ret (v := .tuple #[.agg #[.int .i64 0, .int .i64 0, .int .i64 0], .int .i64 2]) (by simp [results, Try.results15, go_sem]) rfl ⟨by rw [HL.out, he], by repeat (first | exact Ext.refl _ | refine Ext.alloc ?_ _ | refine Ext.drew ?_ | refine Ext.drewN ?_ _ | refine Ext.trans ?_ (by assumption))⟩
  · obtain ⟨r0, r1, c0, c1⟩ := spOk_e h
    have he : spE rows changes = 0 := by simp [spE, h]
    have HL := Lib.hid (show words rows changes = (rows / changes, changes - rows % changes, rows % changes) by simp [words, h])
    have m0 := Int.emod_nonneg rows (show changes ≠ 0 by omega)
    have m1 := Int.emod_lt_of_pos rows (show 0 < changes by omega)
    go_enter Try.func15, Try.ntmps15
    go_wp2_with (go_at_call 28; refine (rspread_any _ _ _).mono ?_; rintro e w2 ⟨rfl, rfl⟩)
    exact bodyPost_ret (v := .tuple #[.agg #[.int .i64 (rows / changes), .int .i64 (changes - rows % changes), .int .i64 (rows % changes)], .int .i64 0]) (by simp [results, Try.results15, go_sem]) rfl ⟨by rw [HL.out, he], by repeat (first | exact Ext.refl _ | refine Ext.alloc ?_ _ | refine Ext.drew ?_ | refine Ext.drewN ?_ _ | refine Ext.trans ?_ (by assumption))⟩

theorem same_any (n m c d : Nat) (A B : Option Addr) (xs ys : List Int) (w : World) (hx : Ints w A n xs) (hy : Ints w B m ys) (hn : n ≤ maxLen) :
    Calls Try.prog 16 #[.slice A n c, .slice B m d] w fun e w' => e = .returned (.bool (decide (xs = ys))) ∧ Ext w w' := by
  have HX := Lib.hid hx
  have HY := Lib.hid hy
  unfold maxLen at hn
  clear hx hy
  by_cases hnm : n = m
  · subst hnm
    go_enter Try.func16, Try.ntmps16
    go_wp2_with fail
    go_loopw [5] (fun i wr => ∃ k : Nat, k ≤ n ∧ i = .int .i64 k ∧ Hid (∀ j, j < k → xs.getD j 0 = ys.getD j 0) ∧ Hid (Ext w wr)) (fun i _ => n - (intOf i).toNat)
    case atStart => exact ⟨0, by omega, rfl, fun j hj => absurd hj (by omega), Ext.refl _⟩
    case round =>
      obtain ⟨k, hk, rfl, hall, hext⟩ := hrel
      by_cases hlt : k < n
      · obtain ⟨b, off, rfl, hb, hc⟩ := (HX.out.ext hext.out).2 (by omega)
        obtain ⟨b', off', rfl, hb', hc'⟩ := (HY.out.ext hext.out).2 (by omega)
        have h1 := hc k hlt
        have h2 := hc' k hlt
        clear hc hc'
        generalize hxk : xs.getD k 0 = x at h1
        generalize hyk : ys.getD k 0 = y at h2
        have HXK := Lib.hid hxk
        have HYK := Lib.hid hyk
        clear hxk hyk
        have q0 : (0 : Int) ≤ (k : Int) := by omega
        have q1 : (k : Int) < (n : Int) := by omega
        by_cases hxy : x = y
        · subst hxy
          have HA := Lib.hid (show ∀ j, j < k + 1 → xs.getD j 0 = ys.getD j 0 from fun j hj => by
            by_cases e : j = k
            · subst e; rw [HXK.out, HYK.out]
            · exact hall.out j (by omega))
          clear hall
          go_wp2_with fail
          go_quiet (fail)
          go_wp2
          go_roundw
          case rel => exact ⟨k + 1, by omega, by go_num, HA, by have := hext.out; repeat (first | exact Ext.refl _ | refine Ext.alloc ?_ _ | refine Ext.drew ?_ | refine Ext.drewN ?_ _ | refine Ext.trans ?_ (by assumption))⟩
          case measure => simp [intOf]; omega
        · have HF := Lib.hid (show decide (xs = ys) = false by
            simp only [decide_eq_false_iff_not]; rintro rfl; exact hxy (by rw [← HXK.out, ← HYK.out]))
          have hne : (x != y) = true := by simp [hxy]
          go_wp2_with fail
          go_quiet (fail)
          go_wp2
          go_ret
          exact ⟨by rw [HF.out]; rfl, by have := hext.out; repeat (first | exact Ext.refl _ | refine Ext.alloc ?_ _ | refine Ext.drew ?_ | refine Ext.drewN ?_ _ | refine Ext.trans ?_ (by assumption))⟩
      · obtain rfl : k = n := by omega
        have HF := Lib.hid (show decide (xs = ys) = true from decide_eq_true (ints_eq HX.out.1 HY.out.1 hall.out))
        go_wp2
        go_ret
        exact ⟨by rw [HF.out]; rfl, hext.out⟩
  · have HF := Lib.hid (show decide (xs = ys) = false by
      simp only [decide_eq_false_iff_not]; rintro rfl; exact hnm (HX.out.1.symm.trans HY.out.1))
    have hne : ((n : Int) != (m : Int)) = true := by simp; omega
    go_enter Try.func16, Try.ntmps16
    go_wp2_with fail
    go_ret
    exact ⟨by rw [HF.out]; rfl, by repeat (first | exact Ext.refl _ | refine Ext.alloc ?_ _ | refine Ext.drew ?_ | refine Ext.drewN ?_ _ | refine Ext.trans ?_ (by assumption))⟩

set_option maxHeartbeats 1000000 in
theorem rsteps_any (n c : Nat) (A : Option Addr) (l : List Int) (w : World) (hl : Ints w A n l) (hm : n ≤ maxLen) :
    Calls Try.prog 22 #[.slice A n c] w
      fun e w' => ∃ A' cap, e = .returned (.tuple #[.slice A' (stepsL l).length cap, .int .i64 (stE l)]) ∧ Ints w' A' (stepsL l).length (stepsL l) ∧ Ext w w' := by
  have hlen : l.length = n := hl.1
  have HL := Lib.hid hl
  unfold maxLen at hm
  by_cases h1 : 1001 < n
  · have he := Lib.hid (show stE l = 4 by rw [stE, if_pos (by omega)])
    have hs := Lib.hid (show stepsL l = [] by simp [stepsL, he.out])
    clear hl hlen
    go_enter Try.func22, Try.ntmps22
    go_wp2_with fail
    go_ret2
    exact ⟨none, 0, by rw [hs.out, he.out]; rfl, by rw [hs.out]; exact Ints.none_ _ _, by repeat (first | exact Ext.refl _ | refine Ext.alloc ?_ _ | refine Ext.drew ?_ | refine Ext.drewN ?_ _ | refine Ext.trans ?_ (by assumption))⟩
  have HN := Lib.hid hlen
  have HB := Lib.hid (show n ≤ 1001 by omega)
  clear hl hlen
  go_enter Try.func22, Try.ntmps22
  go_wp2_with fail
  go_loop [4] (fun v => ∃ k : Nat, k ≤ n ∧ v = .int .i64 k ∧ Hid (∀ j, j < k → inR (l.getD j 0) (-1000) 1000 = true)) (fun v => n - (intOf v).toNat)
  case atStart => exact ⟨0, by omega, rfl, fun j hj => absurd hj (by omega)⟩
  case round =>
    obtain ⟨k, hk, rfl, hall⟩ := hrel
    by_cases hlt : k < n
    · obtain ⟨b, off, rfl, hb, hc⟩ := HL.out.2 (by omega)
      have hck := hc k hlt
      clear hc
      generalize hx : l.getD k 0 = x at hck
      have HX := Lib.hid hx
      clear hx
      cases hin : inR x (-1000) 1000
      · have he := Lib.hid (stE_bad HB.out HN.out hlt (by rw [HX.out]; exact hin))
        have hs := Lib.hid (show stepsL l = [] by simp [stepsL, he.out])
        go_wp2_with (go_at_call 33; refine (rin_any _ _).mono ?_; rintro e w2 ⟨rfl, rfl⟩)
        go_ret2
        exact ⟨none, 0, by rw [hs.out, he.out]; rfl, by rw [hs.out]; exact Ints.none_ _ _, by repeat (first | exact Ext.refl _ | refine Ext.alloc ?_ _ | refine Ext.drew ?_ | refine Ext.drewN ?_ _ | refine Ext.trans ?_ (by assumption))⟩
      · have HA := Lib.hid (show ∀ j, j < k + 1 → inR (l.getD j 0) (-1000) 1000 = true from fun j hj => by
          by_cases e : j = k
          · subst e; rw [HX.out]; exact hin
          · exact hall j (by omega))
        clear hall
        go_wp2_with (go_at_call 33; refine (rin_any _ _).mono ?_; rintro e w2 ⟨rfl, rfl⟩)
        go_round
        case rel => exact ⟨k + 1, by omega, by go_num, HA⟩
        case measure => simp [intOf]; omega
    · obtain rfl : k = n := by omega
      have he := Lib.hid (stE_ok HB.out HN.out hall)
      have hs := Lib.hid (show stepsL l = (List.range (k - 1)).map (stepV l) by rw [stepsL, if_pos he.out, HN.out])
      have HALL := Lib.hid hall
      clear hall hlt
      go_wp2_with fail
      go_loopw [5, 6] (fun v i wr => ∃ j : Nat, (j ≤ k - 1 ∨ j = 0) ∧ i = .int .i64 (j + 1 : Nat) ∧ OwnI wr w.heap.size 3 v j ((List.range j).map (stepV l)) ∧ Hid (Ext w wr)) (fun _ i _ => k - (intOf i).toNat)
      case atStart => exact ⟨0, by omega, rfl, OwnI.nil _ _ _, Ext.refl _⟩
      case round =>
        obtain ⟨j, hj, rfl, hown, hext⟩ := hrel
        by_cases hlt : j + 1 < k
        · obtain ⟨b, off, rfl, hb, hc⟩ := HL.out.2 (by omega)
          have d1 := hc j (by omega)
          have d2 := hc (j + 1) hlt
          obtain ⟨x0, x1⟩ := inR_e (HALL.out j (by omega))
          obtain ⟨y0, y1⟩ := inR_e (HALL.out (j + 1) hlt)
          have HS := Lib.hid (show stepV l j = l.getD (j + 1) 0 - l.getD j 0 from rfl)
          clear hc
          generalize l.getD j 0 = x at *
          generalize l.getD (j + 1) 0 = y at *
          have c1 := (Below.cell (p := ⟨b, off + j, none⟩) hext.out hb).trans d1
          have c2 := (Below.cell (p := ⟨b, off + (j + 1), none⟩) hext.out hb).trans d2
          have D1 := Lib.hid d1
          have D2 := Lib.hid d2
          clear d1 d2
          have hbz := World.block_lt_of_cell? wr _ c1
          have b0 : (0 : Int) ≤ (j : Int) := by omega
          have b1 : (j : Int) < (k : Int) := by omega
          have b2 : (0 : Int) ≤ (j : Int) + 1 := by omega
          have b3 : (j : Int) + 1 < (k : Int) := by omega
          have b4 := IntWalk.i64_in ((j : Int) + 1 - 1) (by omega)
          have b5 : ((j : Int) + 1).toNat = j + 1 := by omega
          have b6 := IntWalk.i64_in (y - x) (by omega)
          have b7 := IntWalk.i64_in (j : Int) (by omega)
          go_wp2_with fail
          go_region_held3 (fun w' => w'.cell? ⟨b, off + j, none⟩ = some (.int .i64 x) ∧ w'.cell? ⟨b, off + (j + 1), none⟩ = some (.int .i64 y)) (first | go_keep | exact ⟨(Below.cell (p := ⟨b, off + j, none⟩) hext1.out hb).trans D1.out, (Below.cell (p := ⟨b, off + (j + 1), none⟩) hext1.out hb).trans D2.out⟩) (first | (refine step_append_int 22 3 wr.heap.size (stepV l j) (by rfl) (by rfl) Try.underlying22 info_int (by rfl) (by rfl) ((hown.alloc _).drew) ((hext.out.alloc _).drew) (by simp [go_sem, HS.out]) (by omega) ?_; intro v' w1 hown1 hext1 hgr1))
          clear hown hext b0 b1 b2 b3 b4 b5 b6 b7 hgr1
          go_wp2
          go_roundw
          case rel => exact ⟨j + 1, by omega, by go_num, by rw [map_range_succ]; exact hown1, hext1⟩
          case measure => simp [intOf]; omega
        · obtain ⟨A', cap, rfl, hints⟩ := own_ints hown
          have hjk : j = k - 1 := by omega
          have HI2 := Lib.hid (show Ints wr A' (k - 1) ((List.range (k - 1)).map (stepV l)) from hjk ▸ hints)
          have HJ := Lib.hid hjk
          clear hints hown hjk hj
          go_wp2
          go_ret2
          exact ⟨A', cap, by rw [hs.out, he.out, List.length_map, List.length_range, HJ.out]; rfl, by rw [hs.out, List.length_map, List.length_range]; exact HI2.out, hext.out⟩
end Go.Proofs.Ytegfmojjajoncaa
