/- The contracts of Marks, Gaps, Words, Line, Even and Steps. -/
import Derived.Test.YtegfmojjajoncaaSlopeB
namespace Go.Proofs.Ytegfmojjajoncaa
open Go.RowKit

theorem cell2 (w : World) (x y : Value) (t : TypeId) : ((w.alloc (.cells #[x] t)).alloc (.cells #[y] t)).cell? ⟨w.heap.size, 0, none⟩ = some x ∧ ((w.alloc (.cells #[x] t)).alloc (.cells #[y] t)).cell? ⟨w.heap.size + 1, 0, none⟩ = some y := by
  constructor <;> simp [go_sem]
theorem cell3 (w : World) (x y z : Value) (t : TypeId) : (((w.alloc (.cells #[x] t)).alloc (.cells #[y] t)).alloc (.cells #[z] t)).cell? ⟨w.heap.size, 0, none⟩ = some x ∧ (((w.alloc (.cells #[x] t)).alloc (.cells #[y] t)).alloc (.cells #[z] t)).cell? ⟨w.heap.size + 1, 0, none⟩ = some y ∧ (((w.alloc (.cells #[x] t)).alloc (.cells #[y] t)).alloc (.cells #[z] t)).cell? ⟨w.heap.size + 2, 0, none⟩ = some z ∧ (((w.alloc (.cells #[x] t)).alloc (.cells #[y] t)).alloc (.cells #[z] t)).frozen? ⟨w.heap.size + 2, 0, none⟩ = false := by
  refine ⟨?_, ?_, ?_, ?_⟩ <;> simp [go_sem]

theorem marks_list (rows : Int) (c : Nat) (w : World) (r0 : 1 ≤ rows) (r1 : rows ≤ 1000) (c0 : 1 ≤ c) (c1 : c ≤ 1000) :
    Calls Try.prog 26 #[.int .i64 c, .func (.func 27) #[] #[.pointer (some ⟨w.heap.size, 0, none⟩), .pointer (some ⟨w.heap.size + 1, 0, none⟩)]] ((w.alloc (.cells #[.int .i64 rows] 3)).alloc (.cells #[.int .i64 c] 3))
      fun e w' => ∃ A cap, e = .returned (.slice A c cap) ∧ Ints w' A c ((List.range c).map (markV rows c)) ∧ Ext w w' := by
  have h := list_any c 27 #[.pointer (some ⟨w.heap.size, 0, none⟩), .pointer (some ⟨w.heap.size + 1, 0, none⟩)] (markV rows c)
    (fun _ w1 => w1.cell? ⟨w.heap.size, 0, none⟩ = some (.int .i64 rows) ∧ w1.cell? ⟨w.heap.size + 1, 0, none⟩ = some (.int .i64 c)) none ((w.alloc (.cells #[.int .i64 rows] 3)).alloc (.cells #[.int .i64 c] 3)) (by omega) (enters _ (by kernel_rfl)) (by simp)
    (cell2 _ _ _ _)
    (fun i w1 w2 hI hb => ⟨(hb.cell (p := ⟨w.heap.size, 0, none⟩) (by simp; omega)).trans hI.1, (hb.cell (p := ⟨w.heap.size + 1, 0, none⟩) (by simp)).trans hI.2⟩)
    (fun i w1 hi hI _ => (marks1_any i rows c _ _ w1 hI.1 hI.2 (by omega) r0 r1 (by omega) (by omega)).mono fun e w2 ⟨h1, h2⟩ => ⟨h1, h2 ▸ hI, h2 ▸ But.refl _ _⟩)
  exact h.mono fun e w' ⟨A, cap, h1, h2, _, h4⟩ => ⟨A, cap, h1, h2, (((Ext.refl w).alloc _).alloc _).trans h4.ext_none⟩

theorem gaps_list (rows : Int) (c : Nat) (w : World) (r0 : 1 ≤ rows) (r1 : rows ≤ 1000) (c0 : 1 ≤ c) (c1 : c ≤ 1000) :
    Calls Try.prog 26 #[.int .i64 c, .func (.func 29) #[] #[.pointer (some ⟨w.heap.size + 2, 0, none⟩), .pointer (some ⟨w.heap.size, 0, none⟩), .pointer (some ⟨w.heap.size + 1, 0, none⟩)]] (((w.alloc (.cells #[.int .i64 rows] 3)).alloc (.cells #[.int .i64 c] 3)).alloc (.cells #[.int .i64 0] 3))
      fun e w' => ∃ A cap, e = .returned (.slice A c cap) ∧ Ints w' A c ((List.range c).map (gapV rows c)) ∧ Ext w w' := by
  have h := list_any c 29 #[.pointer (some ⟨w.heap.size + 2, 0, none⟩), .pointer (some ⟨w.heap.size, 0, none⟩), .pointer (some ⟨w.heap.size + 1, 0, none⟩)] (gapV rows c)
    (fun i w1 => w1.cell? ⟨w.heap.size, 0, none⟩ = some (.int .i64 rows) ∧ w1.cell? ⟨w.heap.size + 1, 0, none⟩ = some (.int .i64 c) ∧ w1.cell? ⟨w.heap.size + 2, 0, none⟩ = some (.int .i64 (i * rows / c)) ∧ w1.frozen? ⟨w.heap.size + 2, 0, none⟩ = false)
    (some (w.heap.size + 2)) (((w.alloc (.cells #[.int .i64 rows] 3)).alloc (.cells #[.int .i64 c] 3)).alloc (.cells #[.int .i64 0] 3)) (by omega) (enters _ (by kernel_rfl)) (by simp)
    (by have := cell3 w (.int .i64 rows) (.int .i64 c) (.int .i64 0) 3; simpa using this)
    (fun i w1 w2 hI hb => ⟨(hb.cell (p := ⟨w.heap.size, 0, none⟩) (by simp; omega)).trans hI.1, (hb.cell (p := ⟨w.heap.size + 1, 0, none⟩) (by simp)).trans hI.2.1, (hb.cell (p := ⟨w.heap.size + 2, 0, none⟩) (by simp)).trans hI.2.2.1, (hb.frozen (p := ⟨w.heap.size + 2, 0, none⟩) (by simp)).trans hI.2.2.2⟩)
    (fun i w1 hi hI hz => (gaps1_any i rows c _ _ _ w1 hI.2.2.1 hI.2.2.2 hI.1 hI.2.1 (by simp) (by simp) (by omega) r0 r1 (by omega) (by omega)).mono fun e w2 ⟨h1, h2⟩ => by
      subst h2
      refine ⟨h1, ⟨?_, ?_, ?_, ?_⟩, (But.refl _ _).own rfl _⟩
      · rw [World.cell?_setCell_other _ _ _ _ (by simp)]; exact hI.1
      · rw [World.cell?_setCell_other _ _ _ _ (by simp)]; exact hI.2.1
      · exact World.cell?_setCell_same w1 _ _ hI.2.2.1
      · rw [World.frozen?_setCell]; exact hI.2.2.2)
  exact h.mono fun e w' ⟨A, cap, h1, h2, _, h4⟩ => ⟨A, cap, h1, h2, Below.trans ((((Ext.refl w).alloc (.cells #[.int .i64 rows] 3)).alloc (.cells #[.int .i64 c] 3)).alloc (.cells #[.int .i64 0] 3)) (h4.below (by simp; omega) (by intro k e; simp at e; omega))⟩

theorem line_list (a b : Int) (r : Nat) (w : World) (a0 : -1000 ≤ a) (a1 : a ≤ 1000) (b0 : -1000 ≤ b) (b1 : b ≤ 1000) (r0 : 1 ≤ r) (r1 : r ≤ 1000) :
    Calls Try.prog 26 #[.int .i64 ((r : Int) + 1), .func (.func 31) #[] #[.pointer (some ⟨w.heap.size, 0, none⟩), .pointer (some ⟨w.heap.size + 1, 0, none⟩), .pointer (some ⟨w.heap.size + 2, 0, none⟩)]] (((w.alloc (.cells #[.int .i64 a] 3)).alloc (.cells #[.int .i64 b] 3)).alloc (.cells #[.int .i64 r] 3))
      fun e w' => ∃ A cap, e = .returned (.slice A (r + 1) cap) ∧ Ints w' A (r + 1) ((List.range (r + 1)).map (fun i : Nat => atV a b r (i : Int))) ∧ Ext w w' := by
  have h := list_any (r + 1) 31 #[.pointer (some ⟨w.heap.size, 0, none⟩), .pointer (some ⟨w.heap.size + 1, 0, none⟩), .pointer (some ⟨w.heap.size + 2, 0, none⟩)] (fun i : Nat => atV a b r (i : Int))
    (fun _ w1 => w1.cell? ⟨w.heap.size, 0, none⟩ = some (.int .i64 a) ∧ w1.cell? ⟨w.heap.size + 1, 0, none⟩ = some (.int .i64 b) ∧ w1.cell? ⟨w.heap.size + 2, 0, none⟩ = some (.int .i64 r)) none (((w.alloc (.cells #[.int .i64 a] 3)).alloc (.cells #[.int .i64 b] 3)).alloc (.cells #[.int .i64 r] 3)) (by omega) (enters _ (by kernel_rfl)) (by simp)
    (by have := cell3 w (.int .i64 a) (.int .i64 b) (.int .i64 r) 3; exact ⟨this.1, this.2.1, this.2.2.1⟩)
    (fun i w1 w2 hI hb => ⟨(hb.cell (p := ⟨w.heap.size, 0, none⟩) (by simp; omega)).trans hI.1, (hb.cell (p := ⟨w.heap.size + 1, 0, none⟩) (by simp)).trans hI.2.1, (hb.cell (p := ⟨w.heap.size + 2, 0, none⟩) (by simp)).trans hI.2.2⟩)
    (fun i w1 hi hI _ => (line1_any i a b r _ _ _ w1 hI.1 hI.2.1 hI.2.2 a0 a1 b0 b1 (by omega) (by omega) (by omega)).mono fun e w2 ⟨h1, h2⟩ => ⟨h1, h2 ▸ hI, h2 ▸ But.refl _ _⟩)
  rw [show ((r + 1 : Nat) : Int) = (r : Int) + 1 by omega] at h
  exact h.mono fun e w' ⟨A, cap, h1, h2, _, h4⟩ => ⟨A, cap, h1, h2, ((((Ext.refl w).alloc _).alloc _).alloc _).trans h4.ext_none⟩

theorem even_list (a b : Int) (r : Nat) (w : World) (a0 : -1000 ≤ a) (a1 : a ≤ 1000) (b0 : -1000 ≤ b) (b1 : b ≤ 1000) (r0 : 1 ≤ r) (r1 : r ≤ 1000) :
    Calls Try.prog 26 #[.int .i64 ((r : Int) + 1), .func (.func 35) #[] #[.pointer (some ⟨w.heap.size + 2, 0, none⟩), .pointer (some ⟨w.heap.size, 0, none⟩), .pointer (some ⟨w.heap.size + 1, 0, none⟩)]] (((w.alloc (.cells #[.int .i64 a] 3)).alloc (.cells #[.int .i64 b] 3)).alloc (.cells #[.int .i64 r] 3))
      fun e w' => ∃ A cap, e = .returned (.slice A (r + 1) cap) ∧ Ints w' A (r + 1) ((List.range (r + 1)).map (evenV a b r)) ∧ Ext w w' := by
  have h := list_any (r + 1) 35 #[.pointer (some ⟨w.heap.size + 2, 0, none⟩), .pointer (some ⟨w.heap.size, 0, none⟩), .pointer (some ⟨w.heap.size + 1, 0, none⟩)] (evenV a b r)
    (fun _ w1 => w1.cell? ⟨w.heap.size, 0, none⟩ = some (.int .i64 a) ∧ w1.cell? ⟨w.heap.size + 1, 0, none⟩ = some (.int .i64 b) ∧ w1.cell? ⟨w.heap.size + 2, 0, none⟩ = some (.int .i64 r)) none (((w.alloc (.cells #[.int .i64 a] 3)).alloc (.cells #[.int .i64 b] 3)).alloc (.cells #[.int .i64 r] 3)) (by omega) (enters _ (by kernel_rfl)) (by simp)
    (by have := cell3 w (.int .i64 a) (.int .i64 b) (.int .i64 r) 3; exact ⟨this.1, this.2.1, this.2.2.1⟩)
    (fun i w1 w2 hI hb => ⟨(hb.cell (p := ⟨w.heap.size, 0, none⟩) (by simp; omega)).trans hI.1, (hb.cell (p := ⟨w.heap.size + 1, 0, none⟩) (by simp)).trans hI.2.1, (hb.cell (p := ⟨w.heap.size + 2, 0, none⟩) (by simp)).trans hI.2.2⟩)
    (fun i w1 hi hI _ => (even1_any i a b r _ _ _ w1 hI.2.2 hI.1 hI.2.1 a0 a1 b0 b1 (by omega) (by omega) (by omega)).mono fun e w2 ⟨h1, h2⟩ => ⟨h1, h2 ▸ hI, h2 ▸ But.refl _ _⟩)
  rw [show ((r + 1 : Nat) : Int) = (r : Int) + 1 by omega] at h
  exact h.mono fun e w' ⟨A, cap, h1, h2, _, h4⟩ => ⟨A, cap, h1, h2, ((((Ext.refl w).alloc _).alloc _).alloc _).trans h4.ext_none⟩

theorem marks_any (rows changes : Int) (w : World) :
    Calls Try.prog 10 #[.int .i64 rows, .int .i64 changes] w
      fun e w' => ∃ A cap, e = .returned (.tuple #[.slice A (marksL rows changes).length cap, .int .i64 (spE rows changes)]) ∧ Ints w' A (marksL rows changes).length (marksL rows changes) ∧ Ext w w' := by
  cases h : spOk rows changes
  · have he : spE rows changes = 2 := by simp [spE, h]
    have HL := Lib.hid (show marksL rows changes = [] by simp [marksL, h])
    go_enter Try.func10, Try.ntmps10
    go_wp2_with (go_at_call 25; refine (spread_any _ _ _).mono ?_; rintro e w2 ⟨rfl, rfl⟩)
    go_ret2
    exact ⟨none, 0, by rw [HL.out, he]; rfl, by rw [HL.out]; exact Ints.none_ _ _, by repeat (first | exact Ext.refl _ | refine Ext.alloc ?_ _ | refine Ext.drew ?_ | refine Ext.drewN ?_ _ | refine Ext.trans ?_ (by assumption))⟩
  · obtain ⟨r0, r1, c0, c1⟩ := spOk_e h
    obtain ⟨c, rfl⟩ := Int.eq_ofNat_of_zero_le (show 0 ≤ changes by omega)
    have he : spE rows c = 0 := by simp [spE, h]
    have HL := Lib.hid (show marksL rows c = (List.range c).map (markV rows c) by simp [marksL, h])
    go_enter Try.func10, Try.ntmps10
    go_wp2_with (first | (go_at_call 25; refine (spread_any _ _ _).mono ?_; rintro e w2 ⟨rfl, rfl⟩) | (go_at_call 26; refine (marks_list rows c w r0 r1 (by omega) (by omega)).mono ?_; rintro e w3 ⟨A, cap, rfl, hi, hb⟩))
    go_ret2
    exact ⟨A, cap, by rw [HL.out, List.length_map, List.length_range, he]; rfl, by rw [HL.out, List.length_map, List.length_range]; exact hi, hb⟩

theorem gaps_any (rows changes : Int) (w : World) :
    Calls Try.prog 12 #[.int .i64 rows, .int .i64 changes] w
      fun e w' => ∃ A cap, e = .returned (.tuple #[.slice A (gapsL rows changes).length cap, .int .i64 (spE rows changes)]) ∧ Ints w' A (gapsL rows changes).length (gapsL rows changes) ∧ Ext w w' := by
  cases h : spOk rows changes
  · have he : spE rows changes = 2 := by simp [spE, h]
    have HL := Lib.hid (show gapsL rows changes = [] by simp [gapsL, h])
    go_enter Try.func12, Try.ntmps12
    go_wp2_with (go_at_call 25; refine (spread_any _ _ _).mono ?_; rintro e w2 ⟨rfl, rfl⟩)
    go_ret2
    exact ⟨none, 0, by rw [HL.out, he]; rfl, by rw [HL.out]; exact Ints.none_ _ _, by repeat (first | exact Ext.refl _ | refine Ext.alloc ?_ _ | refine Ext.drew ?_ | refine Ext.drewN ?_ _ | refine Ext.trans ?_ (by assumption))⟩
  · obtain ⟨r0, r1, c0, c1⟩ := spOk_e h
    obtain ⟨c, rfl⟩ := Int.eq_ofNat_of_zero_le (show 0 ≤ changes by omega)
    have he : spE rows c = 0 := by simp [spE, h]
    have HL := Lib.hid (show gapsL rows c = (List.range c).map (gapV rows c) by simp [gapsL, h])
    go_enter Try.func12, Try.ntmps12
    go_wp2_with (first | (go_at_call 25; refine (spread_any _ _ _).mono ?_; rintro e w2 ⟨rfl, rfl⟩) | (go_at_call 26; refine (gaps_list rows c w r0 r1 (by omega) (by omega)).mono ?_; rintro e w3 ⟨A, cap, rfl, hi, hb⟩))
    go_ret2
    exact ⟨A, cap, by rw [HL.out, List.length_map, List.length_range, he]; rfl, by rw [HL.out, List.length_map, List.length_range]; exact hi, hb⟩

theorem line_any (a b rows : Int) (w : World) :
    Calls Try.prog 17 #[.int .i64 a, .int .i64 b, .int .i64 rows] w
      fun e w' => ∃ A cap, e = .returned (.tuple #[.slice A (lineL a b rows).length cap, .int .i64 (lnE a b rows)]) ∧ Ints w' A (lineL a b rows).length (lineL a b rows) ∧ Ext w w' := by
  cases h : lnOk a b rows
  · have he : lnE a b rows = 2 := by simp [lnE, h]
    have HL := Lib.hid (show lineL a b rows = [] by simp [lineL, h])
    go_enter Try.func17, Try.ntmps17
    go_wp2_with (go_at_call 30; refine (check_any _ _ _ _).mono ?_; rintro e w2 ⟨rfl, rfl⟩)
    go_ret2
    exact ⟨none, 0, by rw [HL.out, he]; rfl, by rw [HL.out]; exact Ints.none_ _ _, by repeat (first | exact Ext.refl _ | refine Ext.alloc ?_ _ | refine Ext.drew ?_ | refine Ext.drewN ?_ _ | refine Ext.trans ?_ (by assumption))⟩
  · obtain ⟨a0, a1, b0, b1, r0, r1⟩ := lnOk_e h
    obtain ⟨r, rfl⟩ := Int.eq_ofNat_of_zero_le (show 0 ≤ rows by omega)
    have he : lnE a b r = 0 := by simp [lnE, h]
    have HL := Lib.hid (show lineL a b r = (List.range (r + 1)).map (fun i : Nat => atV a b r (i : Int)) by simp [lineL, h])
    go_enter Try.func17, Try.ntmps17
    go_wp2_with (first | (go_at_call 30; refine (check_any _ _ _ _).mono ?_; rintro e w2 ⟨rfl, rfl⟩) | (go_at_call 26; refine (line_list a b r w a0 a1 b0 b1 (by omega) (by omega)).mono ?_; rintro e w3 ⟨A, cap, rfl, hi, hb⟩))
    go_ret2
    exact ⟨A, cap, by rw [HL.out, List.length_map, List.length_range, he]; rfl, by rw [HL.out, List.length_map, List.length_range]; exact hi, hb⟩

theorem even_any (a b rows : Int) (w : World) :
    Calls Try.prog 19 #[.int .i64 a, .int .i64 b, .int .i64 rows] w
      fun e w' => ∃ A cap, e = .returned (.tuple #[.slice A (evenL a b rows).length cap, .int .i64 (lnE a b rows)]) ∧ Ints w' A (evenL a b rows).length (evenL a b rows) ∧ Ext w w' := by
  cases h : lnOk a b rows
  · have he : lnE a b rows = 2 := by simp [lnE, h]
    have HL := Lib.hid (show evenL a b rows = [] by simp [evenL, h])
    go_enter Try.func19, Try.ntmps19
    go_wp2_with (go_at_call 30; refine (check_any _ _ _ _).mono ?_; rintro e w2 ⟨rfl, rfl⟩)
    go_ret2
    exact ⟨none, 0, by rw [HL.out, he]; rfl, by rw [HL.out]; exact Ints.none_ _ _, by repeat (first | exact Ext.refl _ | refine Ext.alloc ?_ _ | refine Ext.drew ?_ | refine Ext.drewN ?_ _ | refine Ext.trans ?_ (by assumption))⟩
  · obtain ⟨a0, a1, b0, b1, r0, r1⟩ := lnOk_e h
    obtain ⟨r, rfl⟩ := Int.eq_ofNat_of_zero_le (show 0 ≤ rows by omega)
    have he : lnE a b r = 0 := by simp [lnE, h]
    have HL := Lib.hid (show evenL a b r = (List.range (r + 1)).map (evenV a b r) by simp [evenL, h])
    go_enter Try.func19, Try.ntmps19
    go_wp2_with (first | (go_at_call 30; refine (check_any _ _ _ _).mono ?_; rintro e w2 ⟨rfl, rfl⟩) | (go_at_call 26; refine (even_list a b r w a0 a1 b0 b1 (by omega) (by omega)).mono ?_; rintro e w3 ⟨A, cap, rfl, hi, hb⟩))
    go_ret2
    exact ⟨A, cap, by rw [HL.out, List.length_map, List.length_range, he]; rfl, by rw [HL.out, List.length_map, List.length_range]; exact hi, hb⟩

theorem words_any (rows changes : Int) (w : World) :
    Calls Try.prog 14 #[.int .i64 rows, .int .i64 changes] w
      fun e w' => e = .returned (.tuple #[.agg #[.int .i64 (words rows changes).1, .int .i64 (words rows changes).2.1, .int .i64 (words rows changes).2.2], .int .i64 (spE rows changes)]) ∧ Ext w w' := by
  cases h : spOk rows changes
  · have he : spE rows changes = 2 := by simp [spE, h]
    have HL := Lib.hid (show words rows changes = (0, 0, 0) by simp [words, h])
    go_enter Try.func14, Try.ntmps14
    go_wp2_with (go_at_call 25; refine (spread_any _ _ _).mono ?_; rintro e w2 ⟨rfl, rfl⟩)
    exact bodyPost_ret (v := .tuple #[.agg #[.int .i64 0, .int .i64 0, .int .i64 0], .int .i64 2]) (by simp [results, Try.results14, go_sem]) rfl ⟨by rw [HL.out, he], by repeat (first | exact Ext.refl _ | refine Ext.alloc ?_ _ | refine Ext.drew ?_ | refine Ext.drewN ?_ _ | refine Ext.trans ?_ (by assumption))⟩
  · obtain ⟨r0, r1, c0, c1⟩ := spOk_e h
    have he : spE rows changes = 0 := by simp [spE, h]
    have HL := Lib.hid (show words rows changes = (rows / changes, changes - rows % changes, rows % changes) by simp [words, h])
    have m0 := Int.emod_nonneg rows (show changes ≠ 0 by omega)
    have m1 := Int.emod_lt_of_pos rows (show 0 < changes by omega)
    go_enter Try.func14, Try.ntmps14
    go_wp2_with (go_at_call 25; refine (spread_any _ _ _).mono ?_; rintro e w2 ⟨rfl, rfl⟩)
    go_region
    all_goals
      go_wp2
      exact bodyPost_ret (v := .tuple #[.agg #[.int .i64 (rows / changes), .int .i64 (changes - rows % changes), .int .i64 (rows % changes)], .int .i64 0]) (by simp [results, Try.results14, go_sem]) rfl ⟨by rw [HL.out, he], by repeat (first | exact Ext.refl _ | refine Ext.alloc ?_ _ | refine Ext.drew ?_ | refine Ext.drewN ?_ _ | refine Ext.trans ?_ (by assumption))⟩

theorem steps1_any (i n c b off : Nat) (a1 : Addr) (l : List Int) (w : World) (h1 : w.cell? a1 = some (.slice (some ⟨b, off, none⟩) n c)) (hl : ∀ j, j < n → w.cell? ⟨b, off + j, none⟩ = some (.int .i64 (l.getD j 0)))
    (hi : i + 1 < n) (hn : n ≤ 1001) (hr : ∀ j, j < n → inR (l.getD j 0) (-1000) 1000 = true) :
    Calls Try.prog 37 #[.int .i64 i, .pointer (some a1)] w fun e w' => e = .returned (.int .i64 (stepV l i)) ∧ ∃ m, w' = w.drewN m := by
  have c1 := hl i (by omega)
  have c2 := hl (i + 1) hi
  obtain ⟨x0, x1⟩ := inR_e (hr i (by omega))
  obtain ⟨y0, y1⟩ := inR_e (hr (i + 1) hi)
  have HS : Hid (stepV l i = l.getD (i + 1) 0 - l.getD i 0) := rfl
  generalize l.getD i 0 = x at *
  generalize l.getD (i + 1) 0 = y at *
  have b0 : (0 : Int) ≤ (i : Int) := by omega
  have b1 : (i : Int) < (n : Int) := by omega
  have b2 : (0 : Int) ≤ (i : Int) + 1 := by omega
  have b3 : (i : Int) + 1 < (n : Int) := by omega
  have b4 := IntWalk.i64_in ((i : Int) + 1) (by omega)
  have b5 : ((i : Int) + 1).toNat = i + 1 := by omega
  have b6 := IntWalk.i64_in (y - x) (by omega)
  clear hl hr hi hn x0 x1 y0 y1
  go_enter Try.func37, Try.ntmps37
  go_wp2_with fail
  go_quiet (fail)
  go_wp2
  go_ret
  exact ⟨by rw [HS.out]; rfl, _, rfl⟩

theorem steps_list (n c : Nat) (A : Option Addr) (l : List Int) (w : World) (hl : Ints w A n l) (hn : n ≤ 1001) (hr : ∀ j, j < n → inR (l.getD j 0) (-1000) 1000 = true) :
    Calls Try.prog 26 #[.int .i64 ((n - 1 : Nat) : Int), .func (.func 37) #[] #[.pointer (some ⟨w.heap.size, 0, none⟩)]] (w.alloc (.cells #[.slice A n c] 22))
      fun e w' => ∃ A' cap, e = .returned (.slice A' (n - 1) cap) ∧ Ints w' A' (n - 1) ((List.range (n - 1)).map (stepV l)) ∧ Ext w w' := by
  have h := list_any (n - 1) 37 #[.pointer (some ⟨w.heap.size, 0, none⟩)] (stepV l)
    (fun _ w1 => w1.cell? ⟨w.heap.size, 0, none⟩ = some (.slice A n c) ∧ Ints w1 A n l ∧ (∀ b off, A = some ⟨b, off, none⟩ → 0 < n → b < w.heap.size)) none (w.alloc (.cells #[.slice A n c] 22)) (by omega) (enters _ (by kernel_rfl)) (by simp)
    ⟨by simp [go_sem], hl.ext ((Ext.refl _).alloc _), fun b off e hn => by obtain ⟨b', off', e', hb, _⟩ := hl.2 hn; rw [e] at e'; cases e'; exact hb⟩
    (fun i w1 w2 hI hb => ⟨(hb.cell (p := ⟨w.heap.size, 0, none⟩) (by simp)).trans hI.1, ⟨hI.2.1.1, fun hn => by
      obtain ⟨b, off, e, hb1, hc⟩ := hI.2.1.2 hn
      exact ⟨b, off, e, Nat.lt_of_lt_of_le hb1 hb.size, fun j hj => (hb.cell (p := ⟨b, off + j, none⟩) (by have := hI.2.2 b off e hn; simp; omega)).trans (hc j hj)⟩⟩, hI.2.2⟩)
    (fun i w1 hi hI _ => by
      obtain ⟨b, off, e, hb1, hc⟩ := hI.2.1.2 (by omega)
      subst e
      refine (steps1_any i n c b off _ l w1 hI.1 hc (by omega) hn hr).mono fun e w2 ⟨h1, m, h2⟩ => ?_
      subst h2
      exact ⟨h1, ⟨hI.1, hI.2.1.ext ((Ext.refl _).drewN _), hI.2.2⟩, But.of_ext ((Ext.refl _).drewN _) _⟩)
  exact h.mono fun e w' ⟨A', cap, h1, h2, _, h4⟩ => ⟨A', cap, h1, h2, ((Ext.refl w).alloc _).trans h4.ext_none⟩

set_option maxHeartbeats 2000000 in
theorem steps_any (n c : Nat) (A : Option Addr) (l : List Int) (w : World) (hl : Ints w A n l) (hm : n ≤ maxLen) :
    Calls Try.prog 21 #[.slice A n c] w
      fun e w' => ∃ A' cap, e = .returned (.tuple #[.slice A' (stepsL l).length cap, .int .i64 (stE l)]) ∧ Ints w' A' (stepsL l).length (stepsL l) ∧ Ext w w' := by
  have hlen : l.length = n := hl.1
  have HL := Lib.hid hl
  unfold maxLen at hm
  by_cases h1 : 1001 < n
  · have he := Lib.hid (show stE l = 4 by rw [stE, if_pos (by omega)])
    have hs := Lib.hid (show stepsL l = [] by simp [stepsL, he.out])
    clear hl hlen
    go_enter Try.func21, Try.ntmps21
    go_wp2_with fail
    go_ret2
    exact ⟨none, 0, by rw [hs.out, he.out]; rfl, by rw [hs.out]; exact Ints.none_ _ _, by repeat (first | exact Ext.refl _ | refine Ext.alloc ?_ _ | refine Ext.drew ?_ | refine Ext.drewN ?_ _ | refine Ext.trans ?_ (by assumption))⟩
  have HN := Lib.hid hlen
  have HB := Lib.hid (show n ≤ 1001 by omega)
  clear hl hlen
  go_enter Try.func21, Try.ntmps21
  go_wp2_with fail
  go_loop [11] (fun v => ∃ k : Nat, k ≤ n ∧ v = .int .i64 k ∧ Hid (∀ j, j < k → inR (l.getD j 0) (-1000) 1000 = true)) (fun v => n - (intOf v).toNat)
  case atStart => exact ⟨0, by omega, rfl, fun j hj => absurd hj (by omega)⟩
  case round =>
    obtain ⟨k, hk, rfl, hall⟩ := hrel
    by_cases hlt : k < n
    · obtain ⟨b, off, rfl, hb, hc⟩ := (HL.out.ext ((Ext.refl w).alloc (.cells #[.slice A n c] 22))).2 (by omega)
      have hck := hc k hlt
      have HX := Lib.hid (show l.getD k 0 = l.getD k 0 from rfl)
      clear hc
      generalize hx : l.getD k 0 = x at hck
      have HX := Lib.hid hx
      clear hx
      cases hin : inR x (-1000) 1000
      · have he := Lib.hid (stE_bad HB.out HN.out hlt (by rw [HX.out]; exact hin))
        have hs := Lib.hid (show stepsL l = [] by simp [stepsL, he.out])
        go_wp2_with (go_at_call 36; refine (within_any _ _ _ _).mono ?_; rintro e w2 ⟨rfl, rfl⟩)
        go_ret2
        exact ⟨none, 0, by rw [hs.out, he.out]; rfl, by rw [hs.out]; exact Ints.none_ _ _, by repeat (first | exact Ext.refl _ | refine Ext.alloc ?_ _ | refine Ext.drew ?_ | refine Ext.drewN ?_ _ | refine Ext.trans ?_ (by assumption))⟩
      · have HA := Lib.hid (show ∀ j, j < k + 1 → inR (l.getD j 0) (-1000) 1000 = true from fun j hj => by
          by_cases e : j = k
          · subst e; rw [HX.out]; exact hin
          · exact hall j (by omega))
        clear hall
        go_wp2_with (go_at_call 36; refine (within_any _ _ _ _).mono ?_; rintro e w2 ⟨rfl, rfl⟩)
        go_round
        case rel => exact ⟨k + 1, by omega, by go_num, HA⟩
        case measure => simp [intOf]; omega
    · obtain rfl : k = n := by omega
      have he := Lib.hid (stE_ok HB.out HN.out hall)
      have hs := Lib.hid (show stepsL l = (List.range (k - 1)).map (stepV l) by rw [stepsL, if_pos he.out, HN.out])
      have hlc := steps_list k c A l w HL.out HB.out hall
      rcases (show k = 0 ∨ k = 1 ∨ 2 ≤ k by omega) with h0 | h0 | h0
      · subst h0
        have HC := Lib.hid hlc
        clear hlc
        go_wp2_with (go_at_call 26; refine (HC.out).mono ?_; rintro e w3 ⟨A', cap, rfl, hi, hb⟩)
        go_ret2
        exact ⟨A', cap, by rw [hs.out, he.out, List.length_map, List.length_range]; rfl, by rw [hs.out, List.length_map, List.length_range]; exact hi, hb⟩
      · subst h0
        have HC := Lib.hid hlc
        clear hlc
        go_wp2_with (go_at_call 26; refine (HC.out).mono ?_; rintro e w3 ⟨A', cap, rfl, hi, hb⟩)
        go_ret2
        exact ⟨A', cap, by rw [hs.out, he.out, List.length_map, List.length_range]; rfl, by rw [hs.out, List.length_map, List.length_range]; exact hi, hb⟩
      · rw [show ((k - 1 : Nat) : Int) = (k : Int) - 1 by omega] at hlc
        have HC := Lib.hid hlc
        clear hlc
        go_wp2_with (go_at_call 26; refine (HC.out).mono ?_; rintro e w3 ⟨A', cap, rfl, hi, hb⟩)
        go_ret2
        exact ⟨A', cap, by rw [hs.out, he.out, List.length_map, List.length_range]; rfl, by rw [hs.out, List.length_map, List.length_range]; exact hi, hb⟩
end Go.Proofs.Ytegfmojjajoncaa
