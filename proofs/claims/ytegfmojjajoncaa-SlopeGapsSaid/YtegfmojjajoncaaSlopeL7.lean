/- SlopeGaps: gaps add up to the rows, P of them are A and Q are A + 1, marks are increasing, with distances of A or A + 1 between them, and as many rows are before the first one as behind the last one, up to one; for any numbers. No condition. -/
import Derived.Test.YtegfmojjajoncaaSlopeS
import Derived.Test.YtegfmojjajoncaaSlopeG
namespace Go.Proofs.Ytegfmojjajoncaa
open Go.ChangeShapes Go.WideShapes Go.ChangeAt Go.RowKit Go.Joins

def gpF (R : Int) (c : Nat) : List Int := (List.range c).map (gapV R c)
def mkF (R : Int) (c : Nat) : List Int := (List.range c).map (markV R c)
theorem gpF_get {R : Int} {c k : Nat} (hk : k < c) : (gpF R c).getD k 0 = gapV R c k := by simp [gpF, List.getD_eq_getElem?_getD, hk]
theorem mkF_get {R : Int} {c k : Nat} (hk : k < c) : (mkF R c).getD k 0 = markV R c k := by simp [mkF, List.getD_eq_getElem?_getD, hk]
theorem gaps_ok {R : Int} {c : Nat} (h : spOk R c = true) (w : World) :
    Calls Try.prog 12 #[.int .i64 R, .int .i64 c] w fun x w' => ∃ A cap, x = .returned (.tuple #[.slice A c cap, .int .i64 0]) ∧ Ints w' A c (gpF R c) ∧ Ext w w' := by
  have := gaps_any R c w
  rwa [show gapsL R c = gpF R c by simp [gapsL, gpF, h], show spE R c = 0 by simp [spE, h], show (gpF R c).length = c by simp [gpF]] at this
theorem marks_ok {R : Int} {c : Nat} (h : spOk R c = true) (w : World) :
    Calls Try.prog 10 #[.int .i64 R, .int .i64 c] w fun x w' => ∃ A cap, x = .returned (.tuple #[.slice A c cap, .int .i64 0]) ∧ Ints w' A c (mkF R c) ∧ Ext w w' := by
  have := marks_any R c w
  rwa [show marksL R c = mkF R c by simp [marksL, mkF, h], show spE R c = 0 by simp [spE, h], show (mkF R c).length = c by simp [mkF]] at this
theorem words_ok {R : Int} {c : Nat} (h : spOk R c = true) (w : World) :
    Calls Try.prog 14 #[.int .i64 R, .int .i64 c] w fun x w' => x = .returned (.tuple #[.agg #[.int .i64 (R / c), .int .i64 (c - R % c), .int .i64 (R % c)], .int .i64 0]) ∧ Ext w w' :=
  words_c (by simp [words, h]) (by simp [spE, h]) w
theorem gaps_bad {rows changes : Int} (h : spOk rows changes = false) (w : World) :
    Calls Try.prog 12 #[.int .i64 rows, .int .i64 changes] w fun x w' => ∃ A cap, x = .returned (.tuple #[.slice A 0 cap, .int .i64 2]) ∧ Ints w' A 0 [] ∧ Ext w w' :=
  gaps_c (L := []) (by simp [gapsL, h]) (by simp [spE, h]) w
theorem marks_bad {rows changes : Int} (h : spOk rows changes = false) (w : World) :
    Calls Try.prog 10 #[.int .i64 rows, .int .i64 changes] w fun x w' => ∃ A cap, x = .returned (.tuple #[.slice A 0 cap, .int .i64 2]) ∧ Ints w' A 0 [] ∧ Ext w w' :=
  marks_c (L := []) (by simp [marksL, h]) (by simp [spE, h]) w
theorem words_bad {rows changes : Int} (h : spOk rows changes = false) (w : World) :
    Calls Try.prog 14 #[.int .i64 rows, .int .i64 changes] w fun x w' => x = .returned (.tuple #[.agg #[.int .i64 0, .int .i64 0, .int .i64 0], .int .i64 2]) ∧ Ext w w' :=
  words_c (by simp [words, h]) (by simp [spE, h]) w

set_option maxRecDepth 100000 in
set_option maxHeartbeats 4000000 in
theorem slopeGaps_walk (R changes : Int) (w : World) :
    Calls Try.prog 8 #[.int .i64 R, .int .i64 changes] w fun e w' => e = .returned (.bool true) ∧ Ext w w' := by
  cases h : spOk R changes
  · have HOK := Lib.hid h
    go_enter Try.func8, Try.ntmps8
    go_wp2_with (first | (go_at_call 24; ((with_reducible refine (alive_any _).mono ?_); rintro e w0 ⟨rfl, hq0⟩)) | (go_at_call 12; ((with_reducible refine (gaps_bad HOK.out _).mono ?_); rintro e w1 ⟨A1, c1, rfl, hi1, hq1⟩)) | (go_at_call 10; ((with_reducible refine (marks_bad HOK.out _).mono ?_); rintro e w2 ⟨A2, c2, rfl, hi2, hq2⟩)) | (go_at_call 14; ((with_reducible refine (words_bad HOK.out _).mono ?_); rintro e w3 ⟨rfl, hq3⟩)))
    go_ret
    exact ⟨rfl, by repeat (first | exact Ext.refl _ | assumption | refine Ext.alloc ?_ _ | refine Ext.drew ?_ | refine Ext.drewN ?_ _ | refine Ext.trans ?_ (by assumption))⟩
  obtain ⟨r0, r1, c0, cr⟩ := spOk_e h
  obtain ⟨c, rfl⟩ := Int.eq_ofNat_of_zero_le (show 0 ≤ changes by omega)
  have HOK := Lib.hid h
  clear h
  have a0 : 0 ≤ R / (c : Int) := Int.ediv_nonneg (by omega) (by omega)
  have a1 : R / (c : Int) ≤ R := Int.ediv_le_self _ (by omega)
  have m0 := Int.emod_nonneg R (show (c : Int) ≠ 0 by omega)
  have m1 := Int.emod_lt_of_pos R (show 0 < (c : Int) by omega)
  go_enter Try.func8, Try.ntmps8
  go_wp2_with (first | (go_at_call 24; ((with_reducible refine (alive_any _).mono ?_); rintro e w0 ⟨rfl, hq0⟩)) | (go_at_call 12; ((with_reducible refine (gaps_ok HOK.out _).mono ?_); rintro e w1 ⟨A1, c1, rfl, hi1, hq1⟩)) | (go_at_call 10; ((with_reducible refine (marks_ok HOK.out _).mono ?_); rintro e w2 ⟨A2, c2, rfl, hi2, hq2⟩)) | (go_at_call 14; ((with_reducible refine (words_ok HOK.out _).mono ?_); rintro e w3 ⟨rfl, hq3⟩)))
  have hP := At3.new w3 (.int .i64 (R / c)) (.int .i64 (c - R % c)) (.int .i64 (R % c)) 29
  obtain ⟨b1, o1, rfl, hb1, hc1⟩ := ((hi1.ext (hq2.trans hq3)).ext ((Ext.refl _).alloc (.cells #[.int .i64 (R / c), .int .i64 (c - R % c), .int .i64 (R % c)] 29))).2 (by omega)
  obtain ⟨b2, o2, rfl, hb2, hc2⟩ := ((hi2.ext hq3).ext ((Ext.refl _).alloc (.cells #[.int .i64 (R / c), .int .i64 (c - R % c), .int .i64 (R % c)] 29))).2 (by omega)
  have HC1 := Lib.hid hc1
  have HC2 := Lib.hid hc2
  have HP := Lib.hid hP
  clear hc1 hc2 hP
  go_loopw [12, 13, 14, 15] (fun s p q t wr => ∃ k : Nat, k ≤ c ∧ t = .int .i64 k ∧ s = .int .i64 ((k : Int) * R / c) ∧ p = .int .i64 ((k : Int) - ((k : Int) * R / c - (k : Int) * (R / c))) ∧ q = .int .i64 ((k : Int) * R / c - (k : Int) * (R / c)) ∧ Hid ((k : Int) * (R / c) ≤ (k : Int) * R / c ∧ (k : Int) * R / c ≤ (k : Int) * (R / c) + k) ∧ Hid (Ext (w3.alloc (.cells #[.int .i64 (R / c), .int .i64 (c - R % c), .int .i64 (R % c)] 29)) wr)) (fun _ _ _ t _ => c - (intOf t).toNat)
  case atStart => exact ⟨0, by omega, rfl, by simp, by simp, by simp, ⟨by simp, by simp⟩, Ext.refl _⟩
  case round =>
    obtain ⟨k, hk, rfl, rfl, rfl, rfl, hbd, hext⟩ := hrel
    by_cases hlt : k < c
    · have hPw := HP.out.ext hext.out
      have hP1 := hPw.2.1
      have hck1 := (Below.cell (p := ⟨b1, o1 + k, none⟩) hext.out hb1).trans (HC1.out k hlt)
      have hck2 := (Below.cell (p := ⟨b2, o2 + k, none⟩) hext.out hb2).trans (HC2.out k hlt)
      rw [gpF_get hlt] at hck1
      rw [mkF_get hlt] at hck2
      obtain ⟨x0, x1⟩ := mark_rng (R := R) (c := c) (k := k) r0 hlt
      obtain ⟨s0, s1⟩ := sum_rng (R := R) (c := c) (k := k) r0 (by omega)
      obtain ⟨bd0, bd1⟩ := hbd.out
      have ka0 : 0 ≤ (k : Int) * (R / c) := Int.mul_nonneg (by omega) a0
      have HG := Lib.hid (show ((k : Int) + 1) * R / c = (k : Int) * R / c + gapV R c k by unfold gapV; omega)
      have HA1 := Lib.hid (show ((k : Int) + 1) * (R / c) = (k : Int) * (R / c) + R / c by rw [Int.add_mul, Int.one_mul])
      have hgt := gap_two (R := R) (c := c) (k := k) (by omega)
      have hk0 : (0 : Int) ≤ (k : Int) := by omega
      have hk1 : (k : Int) < (c : Int) := by omega
      have f1 := IntWalk.i64_in (R / (c : Int) + 1) (by omega)
      have g1 : decide (markV R c k < 0) = false := by simp; omega
      have g2 : decide (R ≤ markV R c k) = false := by simp; omega
      rcases Nat.eq_zero_or_pos k with h0 | h0
      · have g3 : decide (0 < k) = false := by simp; omega
        have g3b : ¬ 0 < k := by omega
        have H0 := Lib.hid h0
        clear h0
        generalize gapV R c k = G at *
        generalize markV R c k = M at *
        rcases hgt with hg | hg
        · have HE := Lib.hid hg
          have g4 : (G == R / (c : Int)) = true := by simp [hg]
          have g5 : (G == R / (c : Int) + 1) = false := by rw [beq_eq_false_iff_ne]; omega
          have gb : 0 ≤ G ∧ G ≤ R := by omega
          obtain ⟨gb0, gb1⟩ := gb
          clear hg
          go_wp2_with fail
          go_quiet (fail)
          go_wp2_with fail
          go_quiet (fail)
          go_wp2_with fail
          go_quiet (fail)
          clear f1 g1 g2 g3 g3b
          go_wp2
          go_roundw
          case rel => exact ⟨k + 1, by omega, by go_num, congrArg (Value.int .i64) (by have e1 := HG.out; have e2 := HE.out; have e3 := HA1.out; have e4 := hbd.out; rw [show ((k + 1 : Nat) : Int) = (k : Int) + 1 from rfl]; omega), congrArg (Value.int .i64) (by have e1 := HG.out; have e2 := HE.out; have e3 := HA1.out; have e4 := hbd.out; rw [show ((k + 1 : Nat) : Int) = (k : Int) + 1 from rfl]; omega), congrArg (Value.int .i64) (by have e1 := HG.out; have e2 := HE.out; have e3 := HA1.out; have e4 := hbd.out; rw [show ((k + 1 : Nat) : Int) = (k : Int) + 1 from rfl]; omega), ⟨by have e1 := HG.out; have e2 := HE.out; have e3 := HA1.out; have e4 := hbd.out; rw [show ((k + 1 : Nat) : Int) = (k : Int) + 1 from rfl]; omega, by have e1 := HG.out; have e2 := HE.out; have e3 := HA1.out; have e4 := hbd.out; rw [show ((k + 1 : Nat) : Int) = (k : Int) + 1 from rfl]; omega⟩, by have := hext.out; repeat (first | exact Ext.refl _ | assumption | refine Ext.alloc ?_ _ | refine Ext.drew ?_ | refine Ext.drewN ?_ _ | refine Ext.trans ?_ (by assumption))⟩
          case measure => simp [intOf]; omega
        · have HE := Lib.hid hg
          have g4 : (G == R / (c : Int)) = false := by rw [beq_eq_false_iff_ne]; omega
          have g5 : (G == R / (c : Int) + 1) = true := by simp [hg]
          have gb : 0 ≤ G ∧ G ≤ R + 1 := by omega
          obtain ⟨gb0, gb1⟩ := gb
          clear hg
          go_wp2_with fail
          go_quiet (fail)
          go_wp2_with fail
          go_quiet (fail)
          go_wp2_with fail
          go_quiet (fail)
          clear f1 g1 g2 g3 g3b
          go_wp2
          go_roundw
          case rel => exact ⟨k + 1, by omega, by go_num, congrArg (Value.int .i64) (by have e1 := HG.out; have e2 := HE.out; have e3 := HA1.out; have e4 := hbd.out; rw [show ((k + 1 : Nat) : Int) = (k : Int) + 1 from rfl]; omega), congrArg (Value.int .i64) (by have e1 := HG.out; have e2 := HE.out; have e3 := HA1.out; have e4 := hbd.out; rw [show ((k + 1 : Nat) : Int) = (k : Int) + 1 from rfl]; omega), congrArg (Value.int .i64) (by have e1 := HG.out; have e2 := HE.out; have e3 := HA1.out; have e4 := hbd.out; rw [show ((k + 1 : Nat) : Int) = (k : Int) + 1 from rfl]; omega), ⟨by have e1 := HG.out; have e2 := HE.out; have e3 := HA1.out; have e4 := hbd.out; rw [show ((k + 1 : Nat) : Int) = (k : Int) + 1 from rfl]; omega, by have e1 := HG.out; have e2 := HE.out; have e3 := HA1.out; have e4 := hbd.out; rw [show ((k + 1 : Nat) : Int) = (k : Int) + 1 from rfl]; omega⟩, by have := hext.out; repeat (first | exact Ext.refl _ | assumption | refine Ext.alloc ?_ _ | refine Ext.drew ?_ | refine Ext.drewN ?_ _ | refine Ext.trans ?_ (by assumption))⟩
          case measure => simp [intOf]; omega
      · have g3 : decide (0 < k) = true := by simp; omega
        have hck3 := (Below.cell (p := ⟨b2, o2 + (k - 1), none⟩) hext.out hb2).trans (HC2.out (k - 1) (by omega))
        rw [mkF_get (by omega)] at hck3
        obtain ⟨y0, y1⟩ := mark_rng (R := R) (c := c) (k := k - 1) r0 (by omega)
        have hmt := mark_two (R := R) (c := c) (k := k - 1) (by omega)
        rw [show k - 1 + 1 = k by omega] at hmt
        have i2 : (0 : Int) ≤ (k : Int) - 1 := by omega
        have i3 : (k : Int) - 1 < (c : Int) := by omega
        have f2 := IntWalk.i64_in ((k : Int) - 1) (by omega)
        have f3 : ((k : Int) - 1).toNat = k - 1 := by omega
        generalize gapV R c k = G at *
        generalize markV R c (k - 1) = M0 at *
        generalize markV R c k = M at *
        have f4 := IntWalk.i64_in (M - M0) (by omega)
        rcases hmt with hm | hm
        · have g6 : (M - M0 != R / (c : Int)) = false := by rw [bne_eq_false_iff_eq]; omega
          have g7 : (M - M0 != R / (c : Int) + 1) = true := by rw [bne_iff_ne]; omega
          clear hm
          rcases hgt with hg | hg
          · have HE := Lib.hid hg
            have g4 : (G == R / (c : Int)) = true := by simp [hg]
            have g5 : (G == R / (c : Int) + 1) = false := by rw [beq_eq_false_iff_ne]; omega
            have gb : 0 ≤ G ∧ G ≤ R := by omega
            obtain ⟨gb0, gb1⟩ := gb
            clear hg
            go_wp2_with fail
            go_quiet (fail)
            go_wp2_with fail
            go_quiet (fail)
            go_wp2_with fail
            go_quiet (fail)
            clear f1 f2 f3 f4 g1 g2 g3 g6 g7
            go_wp2
            go_roundw
            case rel => exact ⟨k + 1, by omega, by go_num, congrArg (Value.int .i64) (by have e1 := HG.out; have e2 := HE.out; have e3 := HA1.out; have e4 := hbd.out; rw [show ((k + 1 : Nat) : Int) = (k : Int) + 1 from rfl]; omega), congrArg (Value.int .i64) (by have e1 := HG.out; have e2 := HE.out; have e3 := HA1.out; have e4 := hbd.out; rw [show ((k + 1 : Nat) : Int) = (k : Int) + 1 from rfl]; omega), congrArg (Value.int .i64) (by have e1 := HG.out; have e2 := HE.out; have e3 := HA1.out; have e4 := hbd.out; rw [show ((k + 1 : Nat) : Int) = (k : Int) + 1 from rfl]; omega), ⟨by have e1 := HG.out; have e2 := HE.out; have e3 := HA1.out; have e4 := hbd.out; rw [show ((k + 1 : Nat) : Int) = (k : Int) + 1 from rfl]; omega, by have e1 := HG.out; have e2 := HE.out; have e3 := HA1.out; have e4 := hbd.out; rw [show ((k + 1 : Nat) : Int) = (k : Int) + 1 from rfl]; omega⟩, by have := hext.out; repeat (first | exact Ext.refl _ | assumption | refine Ext.alloc ?_ _ | refine Ext.drew ?_ | refine Ext.drewN ?_ _ | refine Ext.trans ?_ (by assumption))⟩
            case measure => simp [intOf]; omega
          · have HE := Lib.hid hg
            have g4 : (G == R / (c : Int)) = false := by rw [beq_eq_false_iff_ne]; omega
            have g5 : (G == R / (c : Int) + 1) = true := by simp [hg]
            have gb : 0 ≤ G ∧ G ≤ R + 1 := by omega
            obtain ⟨gb0, gb1⟩ := gb
            clear hg
            go_wp2_with fail
            go_quiet (fail)
            go_wp2_with fail
            go_quiet (fail)
            go_wp2_with fail
            go_quiet (fail)
            clear f1 f2 f3 f4 g1 g2 g3 g6 g7
            go_wp2
            go_roundw
            case rel => exact ⟨k + 1, by omega, by go_num, congrArg (Value.int .i64) (by have e1 := HG.out; have e2 := HE.out; have e3 := HA1.out; have e4 := hbd.out; rw [show ((k + 1 : Nat) : Int) = (k : Int) + 1 from rfl]; omega), congrArg (Value.int .i64) (by have e1 := HG.out; have e2 := HE.out; have e3 := HA1.out; have e4 := hbd.out; rw [show ((k + 1 : Nat) : Int) = (k : Int) + 1 from rfl]; omega), congrArg (Value.int .i64) (by have e1 := HG.out; have e2 := HE.out; have e3 := HA1.out; have e4 := hbd.out; rw [show ((k + 1 : Nat) : Int) = (k : Int) + 1 from rfl]; omega), ⟨by have e1 := HG.out; have e2 := HE.out; have e3 := HA1.out; have e4 := hbd.out; rw [show ((k + 1 : Nat) : Int) = (k : Int) + 1 from rfl]; omega, by have e1 := HG.out; have e2 := HE.out; have e3 := HA1.out; have e4 := hbd.out; rw [show ((k + 1 : Nat) : Int) = (k : Int) + 1 from rfl]; omega⟩, by have := hext.out; repeat (first | exact Ext.refl _ | assumption | refine Ext.alloc ?_ _ | refine Ext.drew ?_ | refine Ext.drewN ?_ _ | refine Ext.trans ?_ (by assumption))⟩
            case measure => simp [intOf]; omega
        · have g6 : (M - M0 != R / (c : Int)) = true := by rw [bne_iff_ne]; omega
          have g7 : (M - M0 != R / (c : Int) + 1) = false := by rw [bne_eq_false_iff_eq]; omega
          clear hm
          rcases hgt with hg | hg
          · have HE := Lib.hid hg
            have g4 : (G == R / (c : Int)) = true := by simp [hg]
            have g5 : (G == R / (c : Int) + 1) = false := by rw [beq_eq_false_iff_ne]; omega
            have gb : 0 ≤ G ∧ G ≤ R := by omega
            obtain ⟨gb0, gb1⟩ := gb
            clear hg
            go_wp2_with fail
            go_quiet (fail)
            go_wp2_with fail
            go_quiet (fail)
            go_wp2_with fail
            go_quiet (fail)
            clear f1 f2 f3 f4 g1 g2 g3 g6 g7
            go_wp2
            go_roundw
            case rel => exact ⟨k + 1, by omega, by go_num, congrArg (Value.int .i64) (by have e1 := HG.out; have e2 := HE.out; have e3 := HA1.out; have e4 := hbd.out; rw [show ((k + 1 : Nat) : Int) = (k : Int) + 1 from rfl]; omega), congrArg (Value.int .i64) (by have e1 := HG.out; have e2 := HE.out; have e3 := HA1.out; have e4 := hbd.out; rw [show ((k + 1 : Nat) : Int) = (k : Int) + 1 from rfl]; omega), congrArg (Value.int .i64) (by have e1 := HG.out; have e2 := HE.out; have e3 := HA1.out; have e4 := hbd.out; rw [show ((k + 1 : Nat) : Int) = (k : Int) + 1 from rfl]; omega), ⟨by have e1 := HG.out; have e2 := HE.out; have e3 := HA1.out; have e4 := hbd.out; rw [show ((k + 1 : Nat) : Int) = (k : Int) + 1 from rfl]; omega, by have e1 := HG.out; have e2 := HE.out; have e3 := HA1.out; have e4 := hbd.out; rw [show ((k + 1 : Nat) : Int) = (k : Int) + 1 from rfl]; omega⟩, by have := hext.out; repeat (first | exact Ext.refl _ | assumption | refine Ext.alloc ?_ _ | refine Ext.drew ?_ | refine Ext.drewN ?_ _ | refine Ext.trans ?_ (by assumption))⟩
            case measure => simp [intOf]; omega
          · have HE := Lib.hid hg
            have g4 : (G == R / (c : Int)) = false := by rw [beq_eq_false_iff_ne]; omega
            have g5 : (G == R / (c : Int) + 1) = true := by simp [hg]
            have gb : 0 ≤ G ∧ G ≤ R + 1 := by omega
            obtain ⟨gb0, gb1⟩ := gb
            clear hg
            go_wp2_with fail
            go_quiet (fail)
            go_wp2_with fail
            go_quiet (fail)
            go_wp2_with fail
            go_quiet (fail)
            clear f1 f2 f3 f4 g1 g2 g3 g6 g7
            go_wp2
            go_roundw
            case rel => exact ⟨k + 1, by omega, by go_num, congrArg (Value.int .i64) (by have e1 := HG.out; have e2 := HE.out; have e3 := HA1.out; have e4 := hbd.out; rw [show ((k + 1 : Nat) : Int) = (k : Int) + 1 from rfl]; omega), congrArg (Value.int .i64) (by have e1 := HG.out; have e2 := HE.out; have e3 := HA1.out; have e4 := hbd.out; rw [show ((k + 1 : Nat) : Int) = (k : Int) + 1 from rfl]; omega), congrArg (Value.int .i64) (by have e1 := HG.out; have e2 := HE.out; have e3 := HA1.out; have e4 := hbd.out; rw [show ((k + 1 : Nat) : Int) = (k : Int) + 1 from rfl]; omega), ⟨by have e1 := HG.out; have e2 := HE.out; have e3 := HA1.out; have e4 := hbd.out; rw [show ((k + 1 : Nat) : Int) = (k : Int) + 1 from rfl]; omega, by have e1 := HG.out; have e2 := HE.out; have e3 := HA1.out; have e4 := hbd.out; rw [show ((k + 1 : Nat) : Int) = (k : Int) + 1 from rfl]; omega⟩, by have := hext.out; repeat (first | exact Ext.refl _ | assumption | refine Ext.alloc ?_ _ | refine Ext.drew ?_ | refine Ext.drewN ?_ _ | refine Ext.trans ?_ (by assumption))⟩
            case measure => simp [intOf]; omega
    · obtain rfl : k = c := by omega
      obtain ⟨e1, e2⟩ := gap_end (R := R) (c := k) (by omega)
      obtain ⟨n1, n2⟩ := mark_ends (R := R) (c := k) r0 (by omega)
      obtain ⟨x0, x1⟩ := mark_rng (R := R) (c := k) (k := 0) r0 (by omega)
      obtain ⟨y0, y1⟩ := mark_rng (R := R) (c := k) (k := k - 1) r0 (by omega)
      have hPw := HP.out.ext hext.out
      have hP1 := hPw.2.1
      have hP2 := hPw.2.2.1
      have hP3 := hPw.2.2.2
      have hck2 := (Below.cell (p := ⟨b2, o2 + 0, none⟩) hext.out hb2).trans (HC2.out 0 (by omega))
      have hck3 := (Below.cell (p := ⟨b2, o2 + (k - 1), none⟩) hext.out hb2).trans (HC2.out (k - 1) (by omega))
      rw [mkF_get (by omega), Nat.add_zero] at hck2
      rw [mkF_get (by omega)] at hck3
      have i2 : (0 : Int) ≤ (k : Int) - 1 := by omega
      have i3 : (k : Int) - 1 < (k : Int) := by omega
      have f2 := IntWalk.i64_in ((k : Int) - 1) (by omega)
      have f3 : ((k : Int) - 1).toNat = k - 1 := by omega
      have f5 := IntWalk.i64_in (R - 1) (by omega)
      have f6 := IntWalk.i64_in (R - 1 - markV R k (k - 1)) (by omega)
      have hk0 : (0 : Int) < (k : Int) := by omega
      generalize markV R k 0 = M at *
      generalize markV R k (k - 1) = M0 at *
      rw [e1, e2]
      go_wp2_with fail
      go_quiet (fail)
      clear f2 f3 f5 f6
      go_wp2
      have := hext.out
      go_ret
      exact ⟨rfl, by repeat (first | exact Ext.refl _ | assumption | refine Ext.alloc ?_ _ | refine Ext.drew ?_ | refine Ext.drewN ?_ _ | refine Ext.trans ?_ (by assumption))⟩

set_option maxRecDepth 100000 in
theorem slopeGaps_lifted (os : Os) (started : os.Started) (H : Type) (enc : TypeId × Value → H) :
    ReturnsInHanded {} Try.checked os 8 .any (Rows.slopeGapsSpec.pre6 enc Try.prog Try.f8 Rows.slopeGapsRow.domain false) (Rows.slopeGapsSpec.post enc Try.prog Try.f8 false true false false) := by
  refine returnsInHanded_of_change (C := Try.checked) own started (by kernel_rfl) Try.func8
    (ChangeSpec.witness6 (enc := enc) (C := Try.checked) false ⟨#[], #[.int .i64 0, .int .i64 0], []⟩ 8 (by kernel_rfl) (by kernel_rfl) (by kernel_rfl) (by kernel_rfl)) ?_
  intro W base args ds gs before hval0 hW hcnd _
  have hval : ∀ (j : Nat) t v, Try.f8.params[j]? = some t → args[j]? = some v → Value.okWide Try.prog W .any base t v := hval0
  have hW' := hW
  obtain ⟨p, q, hA0, hV, rfl, hfz, hnd⟩ := hW
  have hA : DataW.TrodAll enc Try.prog W 0 (fun _ => true) true Try.f8.params.toList args.toList ds p := hA0
  rw [Try.params8] at hA hval
  obtain ⟨v0, vs0, d0, ds0, p0, q0, hargs, rfl, rfl, h0, r0⟩ := trodAll_cons hA
  obtain ⟨v1, vs1, d1, ds1, p1, q1, rfl, rfl, rfl, h1, r1⟩ := trodAll_cons r0
  obtain ⟨rfl, rfl, rfl⟩ := trodAll_nil r1
  obtain rfl : args = #[v0, v1] := by cases args; simp_all
  obtain ⟨rfl, rfl⟩ := trodVars_none hV
  obtain ⟨R, rfl, rfl, -, -⟩ := open_int Try.underlying3 (hval 0 3 v0 rfl rfl) h0
  obtain ⟨changes, rfl, rfl, -, -⟩ := open_int Try.underlying3 (hval 1 3 v1 rfl rfl) h1
  refine (slopeGaps_walk R changes W).mono fun e W' ⟨he, hg⟩ => ?_
  subst he
  exact ⟨_, rfl, law_post laid_out rfl Try.underlying4 (by kernel_rfl) rfl hW' rfl hg⟩

theorem slopeGaps_holds : Rows.SlopeGapsSaid :=
  OpenClaim.holds_of_wide 8 Try.f8 rfl rfl rfl rfl rfl rfl rfl ⟨rfl, rfl, rfl, rfl, rfl⟩ rfl rfl rfl rfl rfl (by kernel_rfl) Try.func8 (by kernel_rfl)
    (of_decide_eq_true (by kernel_rfl)) (by unfold Func.isWrapper; first | (rw [if_pos (by decide +kernel)]; kernel_rfl) | (rw [if_neg (by decide +kernel)]; exact ⟨rfl, rfl⟩))
    (fun os started H enc _ => slopeGaps_lifted os started H enc)
end Go.Proofs.Ytegfmojjajoncaa
