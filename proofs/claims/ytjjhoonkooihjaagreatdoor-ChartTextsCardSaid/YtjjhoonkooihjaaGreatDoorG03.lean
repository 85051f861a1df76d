/- The contracts of Check, sum, All, Uses, Makes and Same of stitch. -/
import Derived.Test.YtjjhoonkooihjaaGreatDoorG02
import Derived.Test.YtjjhoonkooihjaaGreatDoorG01
import Derived.Test.YtjjhoonkooihjaaGreatDoorG00
namespace Go.Proofs.YtjjhoonkooihjaaGreatDoor
set_option maxRecDepth 100000
open Go.RowKit

set_option maxHeartbeats 1000000 in
theorem check_any (k : Int) (p : Bool) (a b : Int) (h0 : 0 ≤ k) (h1 : k ≤ 255) (w : World) :
    Calls Tryz.prog 64 #[.agg #[.int .u8 k, .bool p, .int .i64 a, .int .i64 b]] w fun e w' => e = .returned (.int .i64 (okE ⟨k, p, a, b⟩)) ∧ Ext w w' := by
  cases hk : kindB k
  · have HE := Lib.hid (show okE ⟨k, p, a, b⟩ = 8 by simp [okE, okSt, hk])
    go_enter Tryz.func64, Tryz.ntmps64
    go_wp2_with (go_at_call 51; ((with_reducible refine (forms_no k h0 h1 hk _).mono ?_); rintro e w1 ⟨rfl, hq1⟩; unfold form0))
    go_ret
    exact ⟨by rw [HE.out]; rfl, by repeat (first | exact Ext.refl _ | assumption | refine Ext.alloc ?_ _ | refine Ext.drew ?_ | refine Ext.drewN ?_ _ | refine Ext.trans ?_ (by assumption))⟩
  cases ha : inR a (fa0 k) (fa1 k)
  · have HE := Lib.hid (show okE ⟨k, p, a, b⟩ = 8 by simp [okE, okSt, hk, ha])
    go_enter Tryz.func64, Tryz.ntmps64
    go_wp2_with (first | (go_at_call 51; ((with_reducible refine (forms_ok k hk _).mono ?_); rintro e w1 ⟨rfl, hq1⟩; unfold formV; obtain ⟨hf1, hf2, hf3⟩ := hq1.facts)) | (go_at_call 90; ((with_reducible refine (within_any a (fa0 k) (fa1 k) _).mono ?_); rintro e w2 ⟨rfl, hq2⟩; obtain ⟨hg1, hg2, hg3⟩ := hq2.facts; obtain ⟨hh1, hh2, hh3⟩ := (Ext.trans ((hq1.alloc _)) hq2).facts)))
    go_ret
    exact ⟨by rw [HE.out]; rfl, by repeat (first | exact Ext.refl _ | assumption | refine Ext.alloc ?_ _ | refine Ext.drew ?_ | refine Ext.drewN ?_ _ | refine Ext.trans ?_ (by assumption))⟩
  cases hb : inR b (fb0 k) (fb1 k)
  · have HE := Lib.hid (show okE ⟨k, p, a, b⟩ = 8 by simp [okE, okSt, hk, ha, hb])
    go_enter Tryz.func64, Tryz.ntmps64
    go_wp2_with (first | (go_at_call 51; ((with_reducible refine (forms_ok k hk _).mono ?_); rintro e w1 ⟨rfl, hq1⟩; unfold formV; obtain ⟨hf1, hf2, hf3⟩ := hq1.facts)) | (go_at_call 90; ((with_reducible refine (within_any a (fa0 k) (fa1 k) _).mono ?_); rintro e w2 ⟨rfl, hq2⟩; obtain ⟨hg1, hg2, hg3⟩ := hq2.facts; obtain ⟨hh1, hh2, hh3⟩ := (Ext.trans ((hq1.alloc _)) hq2).facts)) | (go_at_call 90; ((with_reducible refine (within_any b (fb0 k) (fb1 k) _).mono ?_); rintro e w3 ⟨rfl, hq3⟩; obtain ⟨hi1, hi2, hi3⟩ := (hq2.trans hq3).facts; obtain ⟨hj1, hj2, hj3⟩ := (Ext.trans (Ext.trans ((hq1.alloc _)) hq2) hq3).facts)))
    go_ret
    exact ⟨by rw [HE.out]; rfl, by repeat (first | exact Ext.refl _ | assumption | refine Ext.alloc ?_ _ | refine Ext.drew ?_ | refine Ext.drewN ?_ _ | refine Ext.trans ?_ (by assumption))⟩
  have HE := Lib.hid (show okE ⟨k, p, a, b⟩ = if (p && !fsd k) then 8 else 0 by cases p <;> cases e : fsd k <;> simp [okE, okSt, hk, ha, hb, e])
  cases p
  · go_enter Tryz.func64, Tryz.ntmps64
    go_wp2_with (first | (go_at_call 51; ((with_reducible refine (forms_ok k hk _).mono ?_); rintro e w1 ⟨rfl, hq1⟩; unfold formV; obtain ⟨hf1, hf2, hf3⟩ := hq1.facts)) | (go_at_call 90; ((with_reducible refine (within_any a (fa0 k) (fa1 k) _).mono ?_); rintro e w2 ⟨rfl, hq2⟩; obtain ⟨hg1, hg2, hg3⟩ := hq2.facts; obtain ⟨hh1, hh2, hh3⟩ := (Ext.trans ((hq1.alloc _)) hq2).facts)) | (go_at_call 90; ((with_reducible refine (within_any b (fb0 k) (fb1 k) _).mono ?_); rintro e w3 ⟨rfl, hq3⟩; obtain ⟨hi1, hi2, hi3⟩ := (hq2.trans hq3).facts; obtain ⟨hj1, hj2, hj3⟩ := (Ext.trans (Ext.trans ((hq1.alloc _)) hq2) hq3).facts)))
    go_ret
    exact ⟨by rw [HE.out]; rfl, by repeat (first | exact Ext.refl _ | assumption | refine Ext.alloc ?_ _ | refine Ext.drew ?_ | refine Ext.drewN ?_ _ | refine Ext.trans ?_ (by assumption))⟩
  cases hs : fsd k
  all_goals
    rw [hs] at HE
    go_enter Tryz.func64, Tryz.ntmps64
    go_wp2_with (first | (go_at_call 51; ((with_reducible refine (forms_ok k hk _).mono ?_); rintro e w1 ⟨rfl, hq1⟩; unfold formV; obtain ⟨hf1, hf2, hf3⟩ := hq1.facts)) | (go_at_call 90; ((with_reducible refine (within_any a (fa0 k) (fa1 k) _).mono ?_); rintro e w2 ⟨rfl, hq2⟩; obtain ⟨hg1, hg2, hg3⟩ := hq2.facts; obtain ⟨hh1, hh2, hh3⟩ := (Ext.trans ((hq1.alloc _)) hq2).facts)) | (go_at_call 90; ((with_reducible refine (within_any b (fb0 k) (fb1 k) _).mono ?_); rintro e w3 ⟨rfl, hq3⟩; obtain ⟨hi1, hi2, hi3⟩ := (hq2.trans hq3).facts; obtain ⟨hj1, hj2, hj3⟩ := (Ext.trans (Ext.trans ((hq1.alloc _)) hq2) hq3).facts)))
    go_ret
    exact ⟨by rw [HE.out]; rfl, by repeat (first | exact Ext.refl _ | assumption | refine Ext.alloc ?_ _ | refine Ext.drew ?_ | refine Ext.drewN ?_ _ | refine Ext.trans ?_ (by assumption))⟩

theorem loops_any (k : Int) (p : Bool) (a b how : Int) (ha : -1000 ≤ a ∧ a ≤ 1000) (hb : -1000 ≤ b ∧ b ≤ 1000) (hh : 0 ≤ how ∧ how ≤ 3) (w : World) :
    Calls Tryz.prog 72 #[.agg #[.int .u8 k, .bool p, .int .i64 a, .int .i64 b], .int .i64 how] w fun e w' => e = .returned (.int .i64 (lpV a b how)) ∧ Ext w w' := by
  obtain ⟨ha0, ha1⟩ := ha
  obtain ⟨hb0, hb1⟩ := hb
  have i0 : ∀ (x y : Int) w, (Instr.index 146 (.agg #[.int .i64 0, .int .i64 1, .int .i64 x, .int .i64 y]) (.int .i64 0)).run Tryz.prog w = .ok (.int .i64 0) w := fun _ _ _ => by kernel_rfl
  have i1 : ∀ (x y : Int) w, (Instr.index 146 (.agg #[.int .i64 0, .int .i64 1, .int .i64 x, .int .i64 y]) (.int .i64 1)).run Tryz.prog w = .ok (.int .i64 1) w := fun _ _ _ => by kernel_rfl
  have i2 : ∀ (x y : Int) w, (Instr.index 146 (.agg #[.int .i64 0, .int .i64 1, .int .i64 x, .int .i64 y]) (.int .i64 2)).run Tryz.prog w = .ok (.int .i64 x) w := fun _ _ _ => by kernel_rfl
  have i3 : ∀ (x y : Int) w, (Instr.index 146 (.agg #[.int .i64 0, .int .i64 1, .int .i64 x, .int .i64 y]) (.int .i64 3)).run Tryz.prog w = .ok (.int .i64 y) w := fun _ _ _ => by kernel_rfl
  have hh' : how = 0 ∨ how = 1 ∨ how = 2 ∨ how = 3 := by omega
  rcases hh' with rfl | rfl | rfl | rfl
  all_goals
    go_enter Tryz.func72, Tryz.ntmps72
    go_wp2
    go_ret
    exact ⟨rfl, by repeat (first | exact Ext.refl _ | assumption | refine Ext.alloc ?_ _ | refine Ext.drew ?_ | refine Ext.drewN ?_ _ | refine Ext.trans ?_ (by assumption))⟩

set_option maxHeartbeats 1000000 in
theorem sum_any (n c : Nat) (A : Option Addr) (l : List St) (w : World) (hl : Vec shSt w A n l) (hn : n ≤ 200) (hb : allB l = true) :
    Calls Tryz.prog 47 #[.slice A n c] w fun e w' => e = .returned (.tuple #[.int .i64 (usL l), .int .i64 (mkL l)]) ∧ Ext w w' := by
  have HX := Lib.hid hl
  have HB := Lib.hid hb
  have HL := Lib.hid hl.1
  clear hl hb
  go_enter Tryz.func47, Tryz.ntmps47
  go_wp2_with fail
  go_loopw [2, 3, 10] (fun u m i wr => ∃ k : Nat, k ≤ n ∧ i = .int .i64 k ∧ u = .int .i64 (usL (l.take k)) ∧ m = .int .i64 (mkL (l.take k)) ∧ Hid (Ext w wr)) (fun _ _ i _ => n - (intOf i).toNat)
  case atStart => exact ⟨0, by omega, rfl, by simp [usL], by simp [mkL], Ext.refl _⟩
  case round =>
    obtain ⟨k, hk, rfl, rfl, rfl, hext⟩ := hrel
    have hxr := hext.out
    by_cases hlt : k < n
    · obtain ⟨b, off, rfl, hb1, hc⟩ := Sts.all (Vec.ext HX.out hext.out) (by omega)
      obtain ⟨c1, c2, c3, c4⟩ := hc k hlt
      have hz := World.block_lt_of_cell? wr _ c1
      have hok := allB_at HB.out (k := k) (by rw [HL.out]; exact hlt)
      have h1 := Lib.hid (usL_succ (l := l) (k := k) (by rw [HL.out]; exact hlt))
      have h2 := Lib.hid (mkL_succ (l := l) (k := k) (by rw [HL.out]; exact hlt))
      obtain ⟨⟨s1, s2⟩, ⟨s3, s4⟩⟩ := sums_bd HB.out k (by rw [HL.out]; omega)
      have hkd := Lib.hid (ok_kind hok)
      obtain ⟨⟨t1, t2, t3, t4⟩, ⟨t5, t6⟩, ⟨t7, t8⟩, ⟨t9, t10⟩, ⟨t11, t12⟩⟩ := ok_bd hok
      clear hc hok
      generalize l.getD k st0 = s at *
      obtain ⟨sk, sp, sa, sb⟩ := s
      simp only at c1 c2 c3 c4 t1 t2 t3 t4 t5 t6 t7 t8 t9 t10 t11 t12
      unfold usV at t5 t6 h1
      unfold mkV at t7 t8 h2
      simp only at t5 t6 t7 t8 h1 h2
      generalize usL (l.take k) = U at *
      generalize mkL (l.take k) = M at *
      go_wp2_with (first | (go_at_call 51; ((with_reducible refine (forms_ok sk hkd.out _).mono ?_); rintro e w1 ⟨rfl, hq1⟩; unfold formV; obtain ⟨hf1, hf2, hf3⟩ := hq1.facts)) | (go_at_call 72; ((with_reducible refine (loops_any sk sp sa sb (fus sk) (by omega) (by omega) (by omega) _).mono ?_); rintro e w2 ⟨rfl, hq2⟩; obtain ⟨hg1, hg2, hg3⟩ := hq2.facts; obtain ⟨hh1, hh2, hh3⟩ := (Ext.trans (hq1.alloc _) hq2).facts)) | (go_at_call 72; ((with_reducible refine (loops_any sk sp sa sb (fmd sk) (by omega) (by omega) (by omega) _).mono ?_); rintro e w3 ⟨rfl, hq3⟩)))
      go_roundw
      case rel => exact ⟨k + 1, by omega, by go_num, by rw [h1.out], by rw [h2.out], by repeat (first | exact Ext.refl _ | assumption | refine Ext.alloc ?_ _ | refine Ext.drew ?_ | refine Ext.drewN ?_ _ | refine Ext.trans ?_ (by assumption))⟩
      case measure => simp [intOf]; omega
    · obtain rfl : k = n := by omega
      have e1 : l.take k = l := List.take_of_length_le (by rw [HL.out]; omega)
      rw [e1]
      clear e1
      go_wp2
      go_ret2
      exact ⟨rfl, by repeat (first | exact Ext.refl _ | assumption | refine Ext.alloc ?_ _ | refine Ext.drew ?_ | refine Ext.drewN ?_ _ | refine Ext.trans ?_ (by assumption))⟩

theorem all1_any (k : Int) (p : Bool) (a b : Int) (h0 : 0 ≤ k) (h1 : k ≤ 255) (w : World) :
    Calls Tryz.prog 71 #[.agg #[.int .u8 k, .bool p, .int .i64 a, .int .i64 b]] w fun e w' => e = .returned (.bool (!okSt ⟨k, p, a, b⟩)) ∧ Ext w w' := by
  have HE := Lib.hid (show okE ⟨k, p, a, b⟩ = if okSt ⟨k, p, a, b⟩ then 0 else 8 from rfl)
  have hc := check_any k p a b h0 h1
  cases h : okSt ⟨k, p, a, b⟩
  all_goals
    rw [h] at HE
    rw [show okE ⟨k, p, a, b⟩ = _ from HE.out] at hc
    have HC := Lib.hid hc
    clear hc
    go_enter Tryz.func71, Tryz.ntmps71
    go_wp2_with (go_at_call 64; ((with_reducible refine (HC.out _).mono ?_); rintro e w1 ⟨rfl, hq1⟩))
    go_ret
    exact ⟨rfl, by repeat (first | exact Ext.refl _ | assumption | refine Ext.alloc ?_ _ | refine Ext.drew ?_ | refine Ext.drewN ?_ _ | refine Ext.trans ?_ (by assumption))⟩

set_option maxHeartbeats 1000000 in
theorem indexf_any (n c : Nat) (A : Option Addr) (l : List St) (w : World) (hl : Vec shSt w A n l) (hn : n ≤ maxLen) (hby : Bytes l) :
    Calls Tryz.prog 96 #[.slice A n c, .func (.func 71) #[] #[]] w fun e w' => (∃ j : Int, e = .returned (.int .i64 j) ∧ decide (0 ≤ j) = !allB l ∧ -1 ≤ j) ∧ Ext w w' := by
  have HX := Lib.hid hl
  have HL := Lib.hid hl.1
  have HBY := Lib.hid hby
  unfold maxLen at hn
  have hn2 : (n : Int) ≤ 9223372036854775807 := by omega
  clear hl hby hn
  go_enter Tryz.func96, Tryz.ntmps96
  go_wp2_with fail
  go_loopw [8] (fun i wr => ∃ k : Nat, k ≤ n ∧ i = .int .i64 k ∧ Hid (∀ j, j < k → okSt (l.getD j st0) = true) ∧ Hid (Ext w wr)) (fun i _ => n - (intOf i).toNat)
  case atStart => exact ⟨0, by omega, rfl, fun j hj => absurd hj (by omega), Ext.refl _⟩
  case round =>
    obtain ⟨k, hk, rfl, hall, hext⟩ := hrel
    have hxr := hext.out
    by_cases hlt : k < n
    · obtain ⟨b, off, rfl, hb1, hc⟩ := Sts.all (Vec.ext HX.out hext.out) (by omega)
      obtain ⟨c1, c2, c3, c4⟩ := hc k hlt
      obtain ⟨y1, y2⟩ := HBY.out k (by rw [HL.out]; exact hlt)
      clear hc
      cases hr : okSt (l.getD k st0)
      · have HA := Lib.hid (allB_bad HL.out hlt hr)
        generalize l.getD k st0 = s at *
        obtain ⟨sk, sp, sa, sb⟩ := s
        simp only at c1 c2 c3 c4 y1 y2
        have HR := Lib.hid hr
        clear hr hall
        go_wp2_with fail
        refine (all1_any sk sp sa sb y1 y2 wr).mono ?_
        rintro e w1 ⟨rfl, hq1⟩
        rw [HR.out]
        go_wp2
        go_ret
        exact ⟨⟨k, rfl, by rw [HA.out]; simp, by omega⟩, by repeat (first | exact Ext.refl _ | assumption | refine Ext.alloc ?_ _ | refine Ext.drew ?_ | refine Ext.drewN ?_ _ | refine Ext.trans ?_ (by assumption))⟩
      · have HA := Lib.hid (show ∀ j, j < k + 1 → okSt (l.getD j st0) = true from fun j hj => by
            by_cases e : j = k
            · subst e; exact hr
            · exact hall.out j (by omega))
        generalize l.getD k st0 = s at *
        obtain ⟨sk, sp, sa, sb⟩ := s
        simp only at c1 c2 c3 c4 y1 y2
        have HR := Lib.hid hr
        clear hr hall
        go_wp2_with fail
        refine (all1_any sk sp sa sb y1 y2 wr).mono ?_
        rintro e w1 ⟨rfl, hq1⟩
        rw [HR.out]
        go_wp2
        go_roundw
        case rel => exact ⟨k + 1, by omega, by go_num, HA, by repeat (first | exact Ext.refl _ | assumption | refine Ext.alloc ?_ _ | refine Ext.drew ?_ | refine Ext.drewN ?_ _ | refine Ext.trans ?_ (by assumption))⟩
        case measure => simp [intOf]; omega
    · obtain rfl : k = n := by omega
      have HA := Lib.hid (allB_ok HL.out hall.out)
      go_wp2
      go_ret
      exact ⟨⟨-1, rfl, by rw [HA.out]; simp, by omega⟩, by repeat (first | exact Ext.refl _ | assumption | refine Ext.alloc ?_ _ | refine Ext.drew ?_ | refine Ext.drewN ?_ _ | refine Ext.trans ?_ (by assumption))⟩
theorem containsf_any (n c : Nat) (A : Option Addr) (l : List St) (w : World) (hl : Vec shSt w A n l) (hn : n ≤ maxLen) (hby : Bytes l) :
    Calls Tryz.prog 70 #[.slice A n c, .func (.func 71) #[] #[]] w fun e w' => e = .returned (.bool (!allB l)) ∧ Ext w w' := by
  have HI := Lib.hid (indexf_any n c A l w hl hn hby)
  go_enter Tryz.func70, Tryz.ntmps70
  go_wp2_with (go_at_call 96; ((with_reducible refine (HI.out).mono ?_); rintro e w1 ⟨⟨j, rfl, hj, hj2⟩, hq1⟩; have HJ := Lib.hid hj; clear hj))
  go_ret
  exact ⟨by rw [← HJ.out]; rfl, by repeat (first | exact Ext.refl _ | assumption | refine Ext.alloc ?_ _ | refine Ext.drew ?_ | refine Ext.drewN ?_ _ | refine Ext.trans ?_ (by assumption))⟩

set_option maxHeartbeats 1000000 in
theorem sall_any (n c : Nat) (A : Option Addr) (l : List St) (w : World) (hl : Vec shSt w A n l) (hn : n ≤ maxLen) (hby : Bytes l) :
    Calls Tryz.prog 46 #[.slice A n c] w fun e w' => e = .returned (.int .i64 (allE l)) ∧ Ext w w' := by
  have HX := Lib.hid hl
  have HL := Lib.hid hl.1
  have hn2 : (n : Int) ≤ 9223372036854775807 := by unfold maxLen at hn; omega
  by_cases h1 : 200 < n
  · have HE := Lib.hid (allE_many (l := l) (by rw [HL.out]; exact h1))
    clear hl hby
    go_enter Tryz.func46, Tryz.ntmps46
    go_wp2
    go_ret
    exact ⟨by rw [HE.out]; rfl, by repeat (first | exact Ext.refl _ | assumption | refine Ext.alloc ?_ _ | refine Ext.drew ?_ | refine Ext.drewN ?_ _ | refine Ext.trans ?_ (by assumption))⟩
  have HI := Lib.hid (containsf_any n c A l w hl hn hby)
  clear hl hby
  cases h2 : allB l
  · have HE := Lib.hid (allE_bad (l := l) (by rw [HL.out]; exact h1) h2)
    go_enter Tryz.func46, Tryz.ntmps46
    go_wp2_with (go_at_call 70; ((with_reducible refine (HI.out).mono ?_); rintro e w1 ⟨rfl, hq1⟩))
    go_ret
    exact ⟨by rw [HE.out]; rfl, by repeat (first | exact Ext.refl _ | assumption | refine Ext.alloc ?_ _ | refine Ext.drew ?_ | refine Ext.drewN ?_ _ | refine Ext.trans ?_ (by assumption))⟩
  have HB := Lib.hid h2
  have hsb := sums_bd h2 l.length (Nat.le_refl _)
  rw [List.take_of_length_le (Nat.le_refl _)] at hsb
  rw [HL.out] at hsb
  obtain ⟨⟨s1, s2⟩, ⟨s3, s4⟩⟩ := hsb
  have hmx : ∀ (ts : Array TypeId) (t : TypeId) (w : World), (Builtin.max_ ts t #[.int .i64 (usL l), .int .i64 (mkL l)]).run Tryz.prog w = .ok (.int .i64 (max (usL l) (mkL l))) w := fun ts t w => by
    rw [run_max_int2]; congr 2; split <;> omega
  by_cases h3 : 200 < max (usL l) (mkL l)
  · have HE := Lib.hid (allE_much (l := l) (by rw [HL.out]; exact h1) h2 h3)
    have h3' : decide (200 < max (usL l) (mkL l)) = true := by simpa using h3
    clear h3
    go_enter Tryz.func46, Tryz.ntmps46
    go_wp2_with (first | (go_at_call 70; ((with_reducible refine (HI.out).mono ?_); rintro e w1 ⟨rfl, hq1⟩)) | (go_at_call 47; ((with_reducible refine (sum_any n c A l _ (Vec.ext HX.out hq1) (by omega) HB.out).mono ?_); rintro e w2 ⟨rfl, hq2⟩)))
    go_ret
    exact ⟨by rw [HE.out]; rfl, by repeat (first | exact Ext.refl _ | assumption | refine Ext.alloc ?_ _ | refine Ext.drew ?_ | refine Ext.drewN ?_ _ | refine Ext.trans ?_ (by assumption))⟩
  · have HE := Lib.hid (allE_ok (l := l) (by rw [HL.out]; exact h1) h2 h3)
    have h3' : decide (200 < max (usL l) (mkL l)) = false := by simpa using h3
    clear h3
    go_enter Tryz.func46, Tryz.ntmps46
    go_wp2_with (first | (go_at_call 70; ((with_reducible refine (HI.out).mono ?_); rintro e w1 ⟨rfl, hq1⟩)) | (go_at_call 47; ((with_reducible refine (sum_any n c A l _ (Vec.ext HX.out hq1) (by omega) HB.out).mono ?_); rintro e w2 ⟨rfl, hq2⟩)))
    go_ret
    exact ⟨by rw [HE.out]; rfl, by repeat (first | exact Ext.refl _ | assumption | refine Ext.alloc ?_ _ | refine Ext.drew ?_ | refine Ext.drewN ?_ _ | refine Ext.trans ?_ (by assumption))⟩
end Go.Proofs.YtjjhoonkooihjaaGreatDoor
/- The contracts of Uses, Makes and Same of stitch, and of the reference of what counts. -/
namespace Go.Proofs.YtjjhoonkooihjaaGreatDoor
set_option maxRecDepth 100000
open Go.RowKit
attribute [local go_sem] run_equalIn_st

theorem uses_any (n c : Nat) (A : Option Addr) (l : List St) (w : World) (hl : Vec shSt w A n l) (hn : n ≤ maxLen) (hby : Bytes l) :
    Calls Tryz.prog 18 #[.slice A n c] w fun e w' => e = .returned (.tuple #[.int .i64 (usG l), .int .i64 (allE l)]) ∧ Ext w w' := by
  have HI := Lib.hid (sall_any n c A l w hl hn hby)
  have HX := Lib.hid hl
  by_cases h : allE l = 0
  · have HV := Lib.hid (show usG l = usL l by rw [usG, if_pos h])
    have HE := Lib.hid h
    obtain ⟨h1, h2, _, _⟩ := allE_e h
    rw [hl.1] at h1
    have HB := Lib.hid h2
    clear h h2 hl hby
    go_enter Tryz.func18, Tryz.ntmps18
    go_wp2_with (first | (go_at_call 46; ((with_reducible refine (HI.out).mono ?_); rintro e w1 ⟨rfl, hq1⟩; rw [HE.out])) | (go_at_call 47; ((with_reducible refine (sum_any n c A l _ (Vec.ext HX.out hq1) (by omega) HB.out).mono ?_); rintro e w2 ⟨rfl, hq2⟩)))
    go_ret2
    exact ⟨by rw [HV.out, HE.out]; rfl, by repeat (first | exact Ext.refl _ | assumption | refine Ext.alloc ?_ _ | refine Ext.drew ?_ | refine Ext.drewN ?_ _ | refine Ext.trans ?_ (by assumption))⟩
  · have HV := Lib.hid (show usG l = 0 by rw [usG, if_neg h])
    have hb : (allE l != 0) = true := by simpa using h
    clear h hl hby
    go_enter Tryz.func18, Tryz.ntmps18
    go_wp2_with (go_at_call 46; ((with_reducible refine (HI.out).mono ?_); rintro e w1 ⟨rfl, hq1⟩))
    go_ret2
    exact ⟨by rw [HV.out]; rfl, by repeat (first | exact Ext.refl _ | assumption | refine Ext.alloc ?_ _ | refine Ext.drew ?_ | refine Ext.drewN ?_ _ | refine Ext.trans ?_ (by assumption))⟩

theorem makes_any (n c : Nat) (A : Option Addr) (l : List St) (w : World) (hl : Vec shSt w A n l) (hn : n ≤ maxLen) (hby : Bytes l) :
    Calls Tryz.prog 19 #[.slice A n c] w fun e w' => e = .returned (.tuple #[.int .i64 (mkG l), .int .i64 (allE l)]) ∧ Ext w w' := by
  have HI := Lib.hid (sall_any n c A l w hl hn hby)
  have HX := Lib.hid hl
  by_cases h : allE l = 0
  · have HV := Lib.hid (show mkG l = mkL l by rw [mkG, if_pos h])
    have HE := Lib.hid h
    obtain ⟨h1, h2, _, _⟩ := allE_e h
    rw [hl.1] at h1
    have HB := Lib.hid h2
    clear h h2 hl hby
    go_enter Tryz.func19, Tryz.ntmps19
    go_wp2_with (first | (go_at_call 46; ((with_reducible refine (HI.out).mono ?_); rintro e w1 ⟨rfl, hq1⟩; rw [HE.out])) | (go_at_call 47; ((with_reducible refine (sum_any n c A l _ (Vec.ext HX.out hq1) (by omega) HB.out).mono ?_); rintro e w2 ⟨rfl, hq2⟩)))
    go_ret2
    exact ⟨by rw [HV.out, HE.out]; rfl, by repeat (first | exact Ext.refl _ | assumption | refine Ext.alloc ?_ _ | refine Ext.drew ?_ | refine Ext.drewN ?_ _ | refine Ext.trans ?_ (by assumption))⟩
  · have HV := Lib.hid (show mkG l = 0 by rw [mkG, if_neg h])
    have hb : (allE l != 0) = true := by simpa using h
    clear h hl hby
    go_enter Tryz.func19, Tryz.ntmps19
    go_wp2_with (go_at_call 46; ((with_reducible refine (HI.out).mono ?_); rintro e w1 ⟨rfl, hq1⟩))
    go_ret2
    exact ⟨by rw [HV.out]; rfl, by repeat (first | exact Ext.refl _ | assumption | refine Ext.alloc ?_ _ | refine Ext.drew ?_ | refine Ext.drewN ?_ _ | refine Ext.trans ?_ (by assumption))⟩

set_option maxHeartbeats 1000000 in
theorem rsame_any (n m c d : Nat) (A B : Option Addr) (xs ys : List St) (w : World) (hx : Vec shSt w A n xs) (hy : Vec shSt w B m ys) (hn : n ≤ maxLen) :
    Calls Tryz.prog 24 #[.slice A n c, .slice B m d] w fun e w' => e = .returned (.bool (decide (xs = ys))) ∧ Ext w w' := by
  have HX := Lib.hid hx
  have HY := Lib.hid hy
  unfold maxLen at hn
  have hn2 : (n : Int) ≤ 9223372036854775807 := by omega
  clear hx hy hn
  by_cases hnm : n = m
  · subst hnm
    go_enter Tryz.func24, Tryz.ntmps24
    go_wp2_with fail
    go_loopw [5] (fun i wr => ∃ k : Nat, k ≤ n ∧ i = .int .i64 k ∧ Hid (∀ j, j < k → xs.getD j st0 = ys.getD j st0) ∧ Hid (Ext w wr)) (fun i _ => n - (intOf i).toNat)
    case atStart => exact ⟨0, by omega, rfl, fun j hj => absurd hj (by omega), Ext.refl _⟩
    case round =>
      obtain ⟨k, hk, rfl, hall, hext⟩ := hrel
      have := hext.out
      by_cases hlt : k < n
      · obtain ⟨b, off, rfl, hb, hc⟩ := Sts.all (HX.out.ext hext.out) (by omega)
        obtain ⟨b', off', rfl, hb', hc'⟩ := Sts.all (HY.out.ext hext.out) (by omega)
        obtain ⟨h1, h2, h3, h4⟩ := hc k hlt
        obtain ⟨h5, h6, h7, h8⟩ := hc' k hlt
        clear hc hc'
        have q0 : (0 : Int) ≤ (k : Int) := by omega
        have q1 : (k : Int) < (n : Int) := by omega
        by_cases hxy : xs.getD k st0 = ys.getD k st0
        · have HA := Lib.hid (show ∀ j, j < k + 1 → xs.getD j st0 = ys.getD j st0 from fun j hj => by
            by_cases e : j = k
            · subst e; exact hxy
            · exact hall.out j (by omega))
          rw [← hxy] at h5 h6 h7 h8
          clear hall hxy
          generalize xs.getD k st0 = x at *
          obtain ⟨x1, x2, x3, x4⟩ := x
          simp only at h1 h2 h3 h4 h5 h6 h7 h8
          go_wp2_with fail
          go_quiet (fail)
          go_wp2
          go_roundw
          case rel => exact ⟨k + 1, by omega, by go_num, HA, by repeat (first | exact Ext.refl _ | assumption | refine Ext.alloc ?_ _ | refine Ext.drew ?_ | refine Ext.drewN ?_ _ | refine Ext.trans ?_ (by assumption))⟩
          case measure => simp [intOf]; omega
        · have HF := Lib.hid (show decide (xs = ys) = false by
            simp only [decide_eq_false_iff_not]; rintro rfl; exact hxy rfl)
          generalize xs.getD k st0 = x at *
          generalize ys.getD k st0 = y at *
          obtain ⟨x1, x2, x3, x4⟩ := x
          obtain ⟨y1, y2, y3, y4⟩ := y
          simp only at h1 h2 h3 h4 h5 h6 h7 h8
          have hne := run_st_ne hxy
          clear hxy
          go_wp2_with fail
          go_quiet (fail)
          go_wp2
          go_ret
          exact ⟨by rw [HF.out]; rfl, by repeat (first | exact Ext.refl _ | assumption | refine Ext.alloc ?_ _ | refine Ext.drew ?_ | refine Ext.drewN ?_ _ | refine Ext.trans ?_ (by assumption))⟩
      · obtain rfl : k = n := by omega
        have HF := Lib.hid (show decide (xs = ys) = true from decide_eq_true (st_eq HX.out.1 HY.out.1 hall.out))
        go_wp2
        go_ret
        exact ⟨by rw [HF.out]; rfl, hext.out⟩
  · have HF := Lib.hid (show decide (xs = ys) = false by
      simp only [decide_eq_false_iff_not]; rintro rfl; exact hnm (HX.out.1.symm.trans HY.out.1))
    have hne : ((n : Int) != (m : Int)) = true := by simp; omega
    go_enter Tryz.func24, Tryz.ntmps24
    go_wp2_with fail
    go_ret
    exact ⟨by rw [HF.out]; rfl, by repeat (first | exact Ext.refl _ | assumption | refine Ext.alloc ?_ _ | refine Ext.drew ?_ | refine Ext.drewN ?_ _ | refine Ext.trans ?_ (by assumption))⟩
end Go.Proofs.YtjjhoonkooihjaaGreatDoor
/- Cells appended to what a call has put together, and where it lies then. -/
namespace Go.Proofs.YtjjhoonkooihjaaGreatDoor
set_option maxRecDepth 100000
open Go.RowKit Go.ChangeShapes Go.WideShapes Go.Joins
theorem own_blk {w : World} {B : Nat} {e : TypeId} {size : Nat} {v : Value} {n : Nat} {xs : List Value} (h : w.ownsRow B e size v n xs) : ∀ k, v.ownBlock = some k → B ≤ k ∧ k < w.heap.size := by
  intro k hk
  rcases h.2 with ⟨h1, _⟩ | ⟨g, cap, cur, h1, hb, hg, _⟩
  · subst h1; simp [Value.ownBlock] at hk
  · subst h1
    simp [Value.ownBlock] at hk
    subst hk
    exact ⟨hb, (Array.getElem?_eq_some_iff.1 hg).1⟩
section
variable {P : Program} {ops : Array Oper} {rest : List Oper} {o : Oper} {a : Act} {K : Act → World → Prop} {Q : Exit → Act → World → Prop} {E : Prop} {w wx : World}
/-- cells appended to what the call has put together -/
theorem wp_append_cells (T e : TypeId) (z : Value) (size bytes : Nat) {s x : Operand} {v : Value} {k m c : Nat} {A : Option Addr} {L news : List Value}
    (ho : o.op = .call { callee := .builtin .append, args := #[s, x], argTypes := #[T, T] })
    (ht : P.underlying T = some (.slice e)) (hinfo : (P.info? e).map (fun i => (i.zero, i.size, i.bytes)) = some (some z, size, bytes)) (hzs : z.cells.size = size) (hsz : 0 < size) (hby : bytes ≤ 1000)
    (hs : a.eval s = v) (hx : a.eval x = .slice A m c) (hown : wx.ownsRow w.heap.size e size v k L) (hext : Ext w wx) (hl : news.length = m * size)
    (hA : 0 < m → ∃ ad, A = some ad ∧ ∀ j u, news[j]? = some u → wx.cell? (ad.add j) = some u) (h1 : ∀ u ∈ news, u.oneCell' = true) (hk : k + m ≤ 1000000)
    (h : ∀ v' w1, w1.ownsRow w.heap.size e size v' (k + m) (L ++ news) → Ext w w1 → wx.grownBy w1 v.ownBlock → (v'.ownBlock = v.ownBlock ∨ v'.ownBlock = some wx.heap.size) → K (a.put o.dst v') w1) : o.wp P a wx K Q := by
  obtain ⟨i0, hi, hz0, hz1, hz2⟩ := info_parts hinfo
  have key : ∃ v' w1, (Builtin.append_ #[T, T] o.type #[v, .slice A m c]).run P wx = .ok v' w1 ∧ w1.ownsRow w.heap.size e size v' (k + m) (L ++ news) ∧ Ext w w1 ∧ wx.grownBy w1 v.ownBlock ∧ (v'.ownBlock = v.ownBlock ∨ v'.ownBlock = some wx.heap.size) := by
    rcases Nat.eq_zero_or_pos m with hm | hm
    · subst hm
      have hn : news = [] := List.eq_nil_of_length_eq_zero (by simpa using hl)
      subst hn
      rcases A with _ | ad
      · exact ⟨v, wx, run_append_of_nil wx _ T o.type e i0 size ht hi v k _ hown c, by simpa using hown, hext, World.grownBy.refl wx _, .inl rfl⟩
      · obtain ⟨v', w1, hrun, h2, h3, h4⟩ := run_append_own_at (P := P) wx w.heap.size T o.type e i0 z size bytes ht hi hz0 hz1 hz2 hzs hsz v k _ hown ad 0 c [] (by simp) (fun j u hu => by simp at hu)
          h1 (by unfold maxLen; omega) (by have := Nat.mul_le_mul (show k + 0 ≤ 1000000 by omega) hby; omega) (Below.size hext)
        exact ⟨v', w1, hrun, h2, Below.grown hext h3 (Below.size hext) (own_base hown), h3, h4.2⟩
    · obtain ⟨ad, rfl, hc⟩ := hA hm
      obtain ⟨v', w1, hrun, h2, h3, h4⟩ := run_append_own_at (P := P) wx w.heap.size T o.type e i0 z size bytes ht hi hz0 hz1 hz2 hzs hsz v k _ hown ad m c news hl hc
        h1 (by unfold maxLen; omega) (by have := Nat.mul_le_mul (show k + m ≤ 1000000 by omega) hby; omega) (Below.size hext)
      exact ⟨v', w1, hrun, h2, Below.grown hext h3 (Below.size hext) (own_base hown), h3, h4.2⟩
  obtain ⟨v', w1, hrun, h2, h3, h4, h5⟩ := key
  unfold Oper.wp execOp
  simp only [ho, resolve, invoke, builtin, Sem.run_bind, Sem.run_pure, Result.andThen_ok, List.map_toArray, List.map_cons, List.map_nil, hs, hx, hrun]
  exact h v' w1 h2 h3 h4 h5
/-- cells appended to a row of its own, wherever that began -/
theorem wp_append_cellsB (T e : TypeId) (z : Value) (size bytes : Nat) {s x : Operand} {v : Value} {k m c : Nat} {A : Option Addr} {L news : List Value}
    (ho : o.op = .call { callee := .builtin .append, args := #[s, x], argTypes := #[T, T] })
    (ht : P.underlying T = some (.slice e)) (hinfo : (P.info? e).map (fun i => (i.zero, i.size, i.bytes)) = some (some z, size, bytes)) (hzs : z.cells.size = size) (hsz : 0 < size) (hby : bytes ≤ 1000)
    (hs : a.eval s = v) (hx : a.eval x = .slice A m c) (B : Nat) (hown : wx.ownsRow B e size v k L) (hB : B ≤ wx.heap.size) (hl : news.length = m * size)
    (hA : 0 < m → ∃ ad, A = some ad ∧ ∀ j u, news[j]? = some u → wx.cell? (ad.add j) = some u) (h1 : ∀ u ∈ news, u.oneCell' = true) (hk : k + m ≤ 1000000)
    (h : ∀ v' w1, w1.ownsRow B e size v' (k + m) (L ++ news) → wx.grownBy w1 v.ownBlock → (v'.ownBlock = v.ownBlock ∨ v'.ownBlock = some wx.heap.size) → K (a.put o.dst v') w1) : o.wp P a wx K Q := by
  obtain ⟨i0, hi, hz0, hz1, hz2⟩ := info_parts hinfo
  have key : ∃ v' w1, (Builtin.append_ #[T, T] o.type #[v, .slice A m c]).run P wx = .ok v' w1 ∧ w1.ownsRow B e size v' (k + m) (L ++ news) ∧ wx.grownBy w1 v.ownBlock ∧ (v'.ownBlock = v.ownBlock ∨ v'.ownBlock = some wx.heap.size) := by
    rcases Nat.eq_zero_or_pos m with hm | hm
    · subst hm
      have hn : news = [] := List.eq_nil_of_length_eq_zero (by simpa using hl)
      subst hn
      rcases A with _ | ad
      · exact ⟨v, wx, run_append_of_nil wx _ T o.type e i0 size ht hi v k _ hown c, by simpa using hown, World.grownBy.refl wx _, .inl rfl⟩
      · obtain ⟨v', w1, hrun, h2, h3, h4⟩ := run_append_own_at (P := P) wx B T o.type e i0 z size bytes ht hi hz0 hz1 hz2 hzs hsz v k _ hown ad 0 c [] (by simp) (fun j u hu => by simp at hu)
          h1 (by unfold maxLen; omega) (by have := Nat.mul_le_mul (show k + 0 ≤ 1000000 by omega) hby; omega) hB
        exact ⟨v', w1, hrun, h2, h3, h4.2⟩
    · obtain ⟨ad, rfl, hc⟩ := hA hm
      obtain ⟨v', w1, hrun, h2, h3, h4⟩ := run_append_own_at (P := P) wx B T o.type e i0 z size bytes ht hi hz0 hz1 hz2 hzs hsz v k _ hown ad m c news hl hc
        h1 (by unfold maxLen; omega) (by have := Nat.mul_le_mul (show k + m ≤ 1000000 by omega) hby; omega) hB
      exact ⟨v', w1, hrun, h2, h3, h4.2⟩
  obtain ⟨v', w1, hrun, h2, h4, h5⟩ := key
  unfold Oper.wp execOp
  simp only [ho, resolve, invoke, builtin, Sem.run_bind, Sem.run_pure, Result.andThen_ok, List.map_toArray, List.map_cons, List.map_nil, hs, hx, hrun]
  exact h v' w1 h2 h4 h5
end
/-- a call has returned these stitches, made by itself -/
def StsR (l : List St) (w : World) (e : Ending) (w' : World) : Prop := ∃ (A : Option Addr) (n c : Nat), e = .returned (.slice A n c) ∧ Ext w w' ∧ Vec shSt w' A n l ∧ (0 < n → ∀ b off, A = some ⟨b, off, none⟩ → w.heap.size ≤ b)
/-- a list that lies elsewhere than in a block -/
def VecX (w : World) (X : Option Nat) (A : Option Addr) (n : Nat) (l : List St) : Prop := Vec shSt w A n l ∧ (0 < n → ∀ b off, A = some ⟨b, off, none⟩ → some b ≠ X)
theorem VecX.step {w w' : World} {X X' : Option Nat} {A : Option Addr} {n : Nat} {l : List St} (h : VecX w X A n l) (hb : w.grownBy w' X) (hx : X' = X ∨ X' = some w.heap.size) : VecX w' X' A n l := by
  refine ⟨⟨h.1.1, fun hn => ?_⟩, fun hn b off e => ?_⟩
  · obtain ⟨b, off, e, hlt, hc⟩ := h.1.2 hn
    exact ⟨b, off, e, Nat.lt_of_lt_of_le hlt (But.size hb), fun k x hx i u hu => (But.cell (p := ⟨b, off + (k * shSt.size + i), none⟩) hb hlt (h.2 hn b off e)).trans (hc k x hx i u hu)⟩
  · obtain ⟨b', off', e', hlt, _⟩ := h.1.2 hn
    rw [e] at e'
    cases e'
    rcases hx with hx | hx
    · rw [hx]; exact h.2 hn b off e
    · rw [hx]; intro e2; cases e2; omega
theorem VecX.ext {w w' : World} {X : Option Nat} {A : Option Addr} {n : Nat} {l : List St} (h : VecX w X A n l) (hb : Ext w w') : VecX w' X A n l := ⟨h.1.ext hb, h.2⟩
theorem OwnV.blk {α : Type} {S : Shp α} {w : World} {B : Nat} {e : TypeId} {v : Value} {k : Nat} {L : List α} (h : OwnV S w B e v k L) : ∀ b, v.ownBlock = some b → B ≤ b ∧ b < w.heap.size := own_blk h
theorem own_vecB {α : Type} {S : Shp α} {w : World} {B k : Nat} {e : TypeId} {v : Value} {L : List α} (h : OwnV S w B e v k L) : ∃ A c, v = .slice A k c ∧ Vec S w A k L ∧ (0 < k → ∀ b off, A = some ⟨b, off, none⟩ → B ≤ b) := by
  obtain ⟨A, c, rfl, hv⟩ := own_vec h
  refine ⟨A, c, rfl, hv, fun hk b off e => ?_⟩
  subst e
  exact (OwnV.blk h b (by simp [Value.ownBlock])).1
section
variable {α : Type} {S : Shp α} {P : Program} {ops : Array Oper} {rest : List Oper} {o : Oper} {a : Act} {Q : Exit → Act → World → Prop} {w wx : World}
/-- a list appended to what the call has put together; where it lies then -/
theorem wpList_append_vecsB (T e : TypeId) (z : Value) (bytes : Nat) {s x : Operand} {v : Value} {k m c : Nat} {A : Option Addr} {L xs : List α}
    (hgd : o.guard = none) (ho : o.op = .call { callee := .builtin .append, args := #[s, x], argTypes := #[T, T] })
    (ht : P.underlying T = some (.slice e)) (hinfo : (P.info? e).map (fun i => (i.zero, i.size, i.bytes)) = some (some z, S.size, bytes)) (hzs : z.cells.size = S.size) (hby : bytes ≤ 1000)
    (hs : a.eval s = v) (hx : a.eval x = .slice A m c) (hown : OwnV S wx w.heap.size e v k L) (hext : Ext w wx) (hxs : Vec S wx A m xs) (hk : k + m ≤ 1000000)
    (h : ∀ v' w1, OwnV S w1 w.heap.size e v' (k + m) (L ++ xs) → Hid (Ext w w1) → Hid (wx.grownBy w1 v.ownBlock ∧ (v'.ownBlock = v.ownBlock ∨ v'.ownBlock = some wx.heap.size)) → wpList P ops Q rest (a.put o.dst v') w1) : wpList P ops Q (o :: rest) a wx :=
  wpList_plain hgd fun _ hK => wp_append_cells (news := xs.flatMap S.cells) T e z S.size bytes ho ht hinfo hzs S.pos hby hs hx hown hext (by rw [flat_len, hxs.1])
    (fun hm => by
      obtain ⟨b, off, hA, _, _⟩ := hxs.2 hm
      subst hA
      exact ⟨_, rfl, hxs.cells_at⟩) (fun u hu => by obtain ⟨y, _, hy⟩ := List.mem_flatMap.1 hu; exact S.one y u hy) hk
    fun v' w' h2 h3 h4 h5 => hK _ _ (h v' w' (by unfold OwnV; rw [List.flatMap_append]; exact h2) h3 ⟨h4, h5⟩)
end
theorem But.grown {E X : Option Nat} {a b c : World} (h : But E a b) (k : b.grownBy c X) (hx : ∀ x, X = some x → a.heap.size ≤ x) : But E a c :=
  ⟨k.os.trans h.os, k.tape.trans h.tape, k.output.trans h.output, Nat.le_trans h.size k.size, fun i hi hne => (k.block i (Nat.lt_of_lt_of_le hi h.size) (fun e => by have := hx i e.symm; omega)).trans (h.block i hi hne)⟩
end Go.Proofs.YtjjhoonkooihjaaGreatDoor
/- Rows of charts in memory. -/
namespace Go.Proofs.YtjjhoonkooihjaaGreatDoor
set_option maxRecDepth 100000
open Go.RowKit Go.ChangeShapes Go.WideShapes Go.Joins
/-- a row as its cells tell it: its side, and where its cells lie -/
structure Raw where
  b : Bool
  A : Option Addr
  n : Nat
  c : Nat
def raw0 : Raw := ⟨false, none, 0, 0⟩
def shRaw : Shp Raw where
  size := 2
  cells x := [.bool x.b, .slice x.A x.n x.c]
  pos := by omega
  len _ := rfl
  one x u h := by
    simp at h
    rcases h with h | h <;> subst h <;> rfl
theorem info_row : (Tryz.prog.info? 46).map (fun i => (i.zero, i.size, i.bytes)) = some (some (.agg #[.bool false, .slice none 0 0]), 2, 32) := by kernel_rfl
/-- a row reads as this one; its cells lie in blocks that meet a condition -/
def RoAt (w : World) (K : Nat → Prop) (x : Raw) (r : Ro) : Prop :=
  x.b = r.back ∧ Vec shSt w x.A x.n r.cells ∧ x.n ≤ maxLen ∧ Bytes r.cells ∧ (0 < x.n → ∀ b off, x.A = some ⟨b, off, none⟩ → K b)
/-- rows, one for one -/
def RosAt (w : World) (K : Nat → Prop) (xs : List Raw) (l : List Ro) : Prop := xs.length = l.length ∧ ∀ k, k < l.length → RoAt w K (xs.getD k raw0) (l.getD k ro0)
/-- the slice with this address and length reads as these rows -/
def Rws (w : World) (K : Nat → Prop) (A : Option Addr) (n : Nat) (l : List Ro) : Prop :=
  n ≤ maxLen ∧ ∃ xs : List Raw, Vec shRaw w A n xs ∧ (0 < n → ∀ b off, A = some ⟨b, off, none⟩ → K b) ∧ RosAt w K xs l
theorem Rws.len {w : World} {K : Nat → Prop} {A : Option Addr} {n : Nat} {l : List Ro} (h : Rws w K A n l) : l.length = n := by
  obtain ⟨_, xs, h1, _, h2⟩ := h
  rw [← h2.1]
  exact h1.1
theorem Vec.keepK {α : Type} {S : Shp α} {w w' : World} {K : Nat → Prop} {A : Option Addr} {n : Nat} {l : List α} (h : Vec S w A n l) (hk : 0 < n → ∀ b off, A = some ⟨b, off, none⟩ → K b) (hz : w.heap.size ≤ w'.heap.size)
    (hc : ∀ b, b < w.heap.size → K b → ∀ o, w'.cell? ⟨b, o, none⟩ = w.cell? ⟨b, o, none⟩) : Vec S w' A n l :=
  ⟨h.1, fun hn => by
    obtain ⟨b, off, e, hlt, hx⟩ := h.2 hn
    exact ⟨b, off, e, Nat.lt_of_lt_of_le hlt hz, fun k x hxk i u hu => (hc b hlt (hk hn b off e) _).trans (hx k x hxk i u hu)⟩⟩
theorem RoAt.keep {w w' : World} {K K' : Nat → Prop} {x : Raw} {r : Ro} (h : RoAt w K x r) (hz : w.heap.size ≤ w'.heap.size) (hc : ∀ b, b < w.heap.size → K b → K' b ∧ ∀ o, w'.cell? ⟨b, o, none⟩ = w.cell? ⟨b, o, none⟩) : RoAt w' K' x r := by
  obtain ⟨h1, h2, h3, h4, h5⟩ := h
  refine ⟨h1, h2.keepK h5 hz (fun b hb hk => (hc b hb hk).2), h3, h4, fun hn b off e => ?_⟩
  obtain ⟨b', off', e', hlt, _⟩ := h2.2 hn
  rw [e] at e'
  cases e'
  exact (hc b hlt (h5 hn b off e)).1
theorem RosAt.keep {w w' : World} {K K' : Nat → Prop} {xs : List Raw} {l : List Ro} (h : RosAt w K xs l) (hz : w.heap.size ≤ w'.heap.size) (hc : ∀ b, b < w.heap.size → K b → K' b ∧ ∀ o, w'.cell? ⟨b, o, none⟩ = w.cell? ⟨b, o, none⟩) : RosAt w' K' xs l :=
  ⟨h.1, fun k hk => (h.2 k hk).keep hz hc⟩
theorem Rws.keep {w w' : World} {K K' : Nat → Prop} {A : Option Addr} {n : Nat} {l : List Ro} (h : Rws w K A n l) (hz : w.heap.size ≤ w'.heap.size) (hc : ∀ b, b < w.heap.size → K b → K' b ∧ ∀ o, w'.cell? ⟨b, o, none⟩ = w.cell? ⟨b, o, none⟩) : Rws w' K' A n l := by
  obtain ⟨h0, xs, h1, h2, h3⟩ := h
  refine ⟨h0, xs, h1.keepK h2 hz (fun b hb hk => (hc b hb hk).2), fun hn b off e => ?_, h3.keep hz hc⟩
  obtain ⟨b', off', e', hlt, _⟩ := h1.2 hn
  rw [e] at e'
  cases e'
  exact (hc b hlt (h2 hn b off e)).1
theorem Rws.ext {w w' : World} {K : Nat → Prop} {A : Option Addr} {n : Nat} {l : List Ro} (h : Rws w K A n l) (hb : Ext w w') : Rws w' K A n l :=
  h.keep (Below.size hb) fun b hlt hk => ⟨hk, fun o => Below.cell (p := ⟨b, o, none⟩) hb hlt⟩
theorem Rws.mono {w : World} {K K' : Nat → Prop} {A : Option Addr} {n : Nat} {l : List Ro} (h : Rws w K A n l) (hk : ∀ b, b < w.heap.size → K b → K' b) : Rws w K' A n l :=
  h.keep (Nat.le_refl _) fun b hlt hb => ⟨hk b hlt hb, fun _ => rfl⟩
theorem Rws.any {w : World} {K : Nat → Prop} {A : Option Addr} {n : Nat} {l : List Ro} (h : Rws w K A n l) : Rws w (fun _ => True) A n l := h.mono fun _ _ _ => trivial
theorem Rws.none_ (w : World) (K : Nat → Prop) (A : Option Addr) : Rws w K A 0 [] := ⟨by unfold maxLen; omega, [], Vec.none_ _ _ _, fun h => absurd h (by omega), rfl, fun k hk => by simp at hk⟩
theorem getRaw {l : List Raw} {k : Nat} (h : k < l.length) : l[k]? = some (l.getD k raw0) := by
  rw [List.getD_eq_getElem?_getD, List.getElem?_eq_getElem h]; rfl
/-- one of the rows -/
theorem Rws.at_ {w : World} {K : Nat → Prop} {A : Option Addr} {n : Nat} {l : List Ro} (h : Rws w K A n l) {k : Nat} (hk : k < n) :
    ∃ (b off : Nat) (A' : Option Addr) (n' c' : Nat), A = some ⟨b, off, none⟩ ∧ b < w.heap.size ∧ K b ∧ w.cell? ⟨b, off + k * 2, none⟩ = some (.bool (l.getD k ro0).back) ∧ w.cell? ⟨b, off + k * 2 + 1, none⟩ = some (.slice A' n' c') ∧
      Vec shSt w A' n' (l.getD k ro0).cells ∧ n' ≤ maxLen ∧ Bytes (l.getD k ro0).cells ∧ (0 < n' → ∀ b off, A' = some ⟨b, off, none⟩ → K b) := by
  have hl := h.len
  obtain ⟨h0, xs, h1, h2, h3⟩ := h
  obtain ⟨b, off, e, hlt, hc⟩ := h1.2 (by omega)
  have hx := getRaw (l := xs) (k := k) (by rw [h1.1]; exact hk)
  obtain ⟨g1, g2, g3, g4, g5⟩ := h3.2 k (by omega)
  refine ⟨b, off, (xs.getD k raw0).A, (xs.getD k raw0).n, (xs.getD k raw0).c, e, hlt, h2 (by omega) b off e, ?_, ?_, g2, g3, g4, g5⟩
  · rw [← g1]; exact hc k _ hx 0 _ rfl
  · exact hc k _ hx 1 _ rfl
/-- a part of the rows -/
theorem Rws.part {w : World} {K : Nat → Prop} {A : Option Addr} {n : Nat} {l : List Ro} (h : Rws w K A n l) {i j : Nat} (hij : i ≤ j) (hj : j ≤ n) : ∀ (A' : Option Addr), (i < j → ∃ b off, A = some ⟨b, off, none⟩ ∧ A' = some ⟨b, off + i * 2, none⟩) →
    Rws w K A' (j - i) ((l.drop i).take (j - i)) := by
  intro A' hA
  have hl := h.len
  obtain ⟨h0, xs, h1, h2, h3⟩ := h
  have hxl := h1.1
  refine ⟨by unfold maxLen at *; omega, (xs.drop i).take (j - i), ⟨by rw [List.length_take, List.length_drop]; omega, fun hn => ?_⟩, fun hn b off e => ?_, by rw [List.length_take, List.length_drop, List.length_take, List.length_drop]; omega, fun k hk => ?_⟩
  · obtain ⟨b, off, e1, e2⟩ := hA (by omega)
    obtain ⟨b', off', e3, hlt, hc⟩ := h1.2 (by omega)
    rw [e1] at e3
    cases e3
    refine ⟨b, off + i * 2, e2, hlt, fun k x hx m u hu => ?_⟩
    have hk : k < j - i := by
      have := (List.getElem?_eq_some_iff.1 hx).1
      rw [List.length_take] at this
      omega
    rw [List.getElem?_take, if_pos hk, List.getElem?_drop] at hx
    have := hc (i + k) x hx m u hu
    have e4 : off + i * 2 + (k * shRaw.size + m) = off + ((i + k) * shRaw.size + m) := by
      show off + i * 2 + (k * 2 + m) = off + ((i + k) * 2 + m)
      omega
    rw [e4]
    exact this
  · obtain ⟨b', off', e1, e2⟩ := hA (by omega)
    rw [e] at e2
    cases e2
    exact h2 (by omega) b off' e1
  · rw [List.length_take, List.length_drop] at hk
    have g1 : ((xs.drop i).take (j - i)).getD k raw0 = xs.getD (i + k) raw0 := by
      rw [List.getD_eq_getElem?_getD, List.getElem?_take, if_pos (by omega), List.getElem?_drop, ← List.getD_eq_getElem?_getD]
    have g2 : ((l.drop i).take (j - i)).getD k ro0 = l.getD (i + k) ro0 := by
      rw [List.getD_eq_getElem?_getD, List.getElem?_take, if_pos (by omega), List.getElem?_drop, ← List.getD_eq_getElem?_getD]
    rw [g1, g2]
    exact h3.2 (i + k) (by omega)
theorem But.frozen {E : Option Nat} {w w' : World} (h : But E w w') {p : Addr} (hp : p.block < w.heap.size) (hne : some p.block ≠ E) : w'.frozen? p = w.frozen? p := by
  exact World.frozen?_of_block (h.block p.block hp hne)
theorem Ext.frozenAt {w w' : World} (h : Ext w w') (p : Addr) (hp : p.block < w.heap.size) : w'.frozen? p = w.frozen? p :=
  But.frozen (But.of_ext h none) hp (by simp)
/-- a block of the call's own, that is not the row v, and that may be written -/
abbrev Kr (w : World) (B : Nat) (v : Value) (b : Nat) : Prop := B ≤ b ∧ some b ≠ v.ownBlock ∧ ∀ o, w.frozen? ⟨b, o, none⟩ = false
/-- the call has put together these rows -/
def OwnR (w : World) (B : Nat) (e : TypeId) (v : Value) (k : Nat) (l : List Ro) : Prop := ∃ xs : List Raw, OwnV shRaw w B e v k xs ∧ RosAt w (Kr w B v) xs l
theorem OwnR.nil (w : World) (B : Nat) (e : TypeId) : OwnR w B e (.slice none 0 0) 0 [] := ⟨[], OwnV.nil _ _ _ _, rfl, fun k hk => by simp at hk⟩
theorem OwnR.ext {w w' : World} {B : Nat} {e : TypeId} {v : Value} {k : Nat} {l : List Ro} (h : OwnR w B e v k l) (hb : Ext w w') : OwnR w' B e v k l := by
  obtain ⟨xs, h1, h2⟩ := h
  exact ⟨xs, h1.ext hb, h2.keep (Below.size hb) fun b hlt hk => ⟨⟨hk.1, hk.2.1, fun o => (Ext.frozenAt hb ⟨b, o, none⟩ hlt).trans (hk.2.2 o)⟩, fun o => Below.cell (p := ⟨b, o, none⟩) hb hlt⟩⟩
theorem OwnR.len {w : World} {B : Nat} {e : TypeId} {v : Value} {k : Nat} {l : List Ro} (h : OwnR w B e v k l) : l.length = k := by
  obtain ⟨xs, h1, h2⟩ := h
  rw [← h2.1]; exact h1.len
theorem OwnR.blk {w : World} {B : Nat} {e : TypeId} {v : Value} {k : Nat} {l : List Ro} (h : OwnR w B e v k l) : ∀ b, v.ownBlock = some b → B ≤ b ∧ b < w.heap.size := by
  obtain ⟨xs, h1, _⟩ := h
  exact h1.blk
theorem own_rws {w : World} {B k : Nat} {e : TypeId} {v : Value} {l : List Ro} (h : OwnR w B e v k l) (hk : k ≤ 1000000) : ∃ A c, v = .slice A k c ∧ Rws w (fun b => B ≤ b) A k l := by
  obtain ⟨xs, h1, h2⟩ := h
  obtain ⟨A, c, rfl, hv, hb⟩ := own_vecB h1
  exact ⟨A, c, rfl, by unfold maxLen; omega, xs, hv, hb, h2.keep (Nat.le_refl _) fun b _ hx => ⟨hx.1, fun _ => rfl⟩⟩
theorem RosAt.snoc {w : World} {K : Nat → Prop} {xs : List Raw} {l : List Ro} {x : Raw} {r : Ro} (h : RosAt w K xs l) (hx : RoAt w K x r) : RosAt w K (xs ++ [x]) (l ++ [r]) := by
  refine ⟨by simp [h.1], fun k hk => ?_⟩
  rcases Nat.lt_or_ge k l.length with h1 | h1
  · have e1 : (xs ++ [x]).getD k raw0 = xs.getD k raw0 := by
      rw [List.getD_eq_getElem?_getD, List.getElem?_append_left (by rw [h.1]; exact h1), ← List.getD_eq_getElem?_getD]
    have e2 : (l ++ [r]).getD k ro0 = l.getD k ro0 := by
      rw [List.getD_eq_getElem?_getD, List.getElem?_append_left h1, ← List.getD_eq_getElem?_getD]
    rw [e1, e2]
    exact h.2 k h1
  · obtain rfl : k = l.length := by simp at hk; omega
    have e1 : (xs ++ [x]).getD l.length raw0 = x := by
      rw [← h.1]; simp
    have e2 : (l ++ [r]).getD l.length ro0 = r := by simp
    rw [e1, e2]
    exact hx
theorem RosAt.app {w : World} {K : Nat → Prop} {xs ys : List Raw} {l m : List Ro} (h : RosAt w K xs l) (hx : RosAt w K ys m) : RosAt w K (xs ++ ys) (l ++ m) := by
  refine ⟨by simp [h.1, hx.1], fun k hk => ?_⟩
  rcases Nat.lt_or_ge k l.length with h1 | h1
  · have e1 : (xs ++ ys).getD k raw0 = xs.getD k raw0 := by
      rw [List.getD_eq_getElem?_getD, List.getElem?_append_left (by rw [h.1]; exact h1), ← List.getD_eq_getElem?_getD]
    have e2 : (l ++ m).getD k ro0 = l.getD k ro0 := by
      rw [List.getD_eq_getElem?_getD, List.getElem?_append_left h1, ← List.getD_eq_getElem?_getD]
    rw [e1, e2]
    exact h.2 k h1
  · rw [List.length_append] at hk
    have e1 : (xs ++ ys).getD k raw0 = ys.getD (k - l.length) raw0 := by
      rw [List.getD_eq_getElem?_getD, List.getElem?_append_right (by rw [h.1]; exact h1), h.1, ← List.getD_eq_getElem?_getD]
    have e2 : (l ++ m).getD k ro0 = m.getD (k - l.length) ro0 := by
      rw [List.getD_eq_getElem?_getD, List.getElem?_append_right h1, ← List.getD_eq_getElem?_getD]
    rw [e1, e2]
    exact hx.2 _ (by omega)
section
variable {P : Program} {ops : Array Oper} {rest : List Oper} {o : Oper} {a : Act} {K : Act → World → Prop} {Q : Exit → Act → World → Prop} {E : Prop} {w wx : World}
/-- rows appended to what the call has put together; what is read of the new ones is the call's own, and not the row itself -/
theorem wp_append_rws (T e : TypeId) (z : Value) (bytes : Nat) {s x : Operand} {v : Value} {k m c : Nat} {A : Option Addr} {t r : List Ro} {ys : List Raw}
    (ho : o.op = .call { callee := .builtin .append, args := #[s, x], argTypes := #[T, T] })
    (ht : P.underlying T = some (.slice e)) (hinfo : (P.info? e).map (fun i => (i.zero, i.size, i.bytes)) = some (some z, shRaw.size, bytes)) (hzs : z.cells.size = 2) (hby : bytes ≤ 1000)
    (hs : a.eval s = v) (hx : a.eval x = .slice A m c) (hown : OwnR wx w.heap.size e v k t) (hext : Ext w wx) (hv : Vec shRaw wx A m ys) (hr : RosAt wx (Kr wx w.heap.size v) ys r) (hk : k + m ≤ 1000000)
    (h : ∀ v' w1, OwnR w1 w.heap.size e v' (k + m) (t ++ r) → Hid (Ext w w1) → K (a.put o.dst v') w1) : o.wp P a wx K Q := by
  obtain ⟨xs, h1, h2⟩ := hown
  refine wp_append_cells (news := ys.flatMap shRaw.cells) T e z 2 bytes ho ht hinfo hzs (by omega) hby hs hx h1 hext (by rw [flat_len, hv.1]; rfl) (fun hm => by
      obtain ⟨b, off, hA, _, _⟩ := hv.2 hm
      subst hA
      exact ⟨_, rfl, hv.cells_at⟩) (fun u hu => by obtain ⟨y, _, hy⟩ := List.mem_flatMap.1 hu; exact shRaw.one y u hy) hk ?_
  intro v' w1 g1 g2 g3 g4
  have hb : ∀ b, b < wx.heap.size → Kr wx w.heap.size v b → Kr w1 w.heap.size v' b ∧ ∀ o, w1.cell? ⟨b, o, none⟩ = wx.cell? ⟨b, o, none⟩ := fun b hlt hb => by
    refine ⟨⟨hb.1, ?_, fun o => (But.frozen g3 (p := ⟨b, o, none⟩) hlt hb.2.1).trans (hb.2.2 o)⟩, fun o => But.cell (p := ⟨b, o, none⟩) g3 hlt hb.2.1⟩
    rcases g4 with g4 | g4
    · rw [g4]; exact hb.2.1
    · rw [g4]; intro e; cases e; omega
  refine h v' w1 ⟨xs ++ ys, ?_, (h2.keep (But.size g3) hb).app (hr.keep (But.size g3) hb)⟩ g2
  unfold OwnV
  rw [List.flatMap_append]
  exact g1
theorem wpList_append_rws (T e : TypeId) (z : Value) (bytes : Nat) {s x : Operand} {v : Value} {k m c : Nat} {A : Option Addr} {t r : List Ro} {ys : List Raw} (hgd : o.guard = none)
    (ho : o.op = .call { callee := .builtin .append, args := #[s, x], argTypes := #[T, T] })
    (ht : P.underlying T = some (.slice e)) (hinfo : (P.info? e).map (fun i => (i.zero, i.size, i.bytes)) = some (some z, shRaw.size, bytes)) (hzs : z.cells.size = 2) (hby : bytes ≤ 1000)
    (hs : a.eval s = v) (hx : a.eval x = .slice A m c) (hown : OwnR wx w.heap.size e v k t) (hext : Ext w wx) (hv : Vec shRaw wx A m ys) (hr : RosAt wx (Kr wx w.heap.size v) ys r) (hk : k + m ≤ 1000000)
    (h : ∀ v' w1, OwnR w1 w.heap.size e v' (k + m) (t ++ r) → Hid (Ext w w1) → wpList P ops Q rest (a.put o.dst v') w1) : wpList P ops Q (o :: rest) a wx :=
  wpList_plain hgd fun _ hK => wp_append_rws T e z bytes ho ht hinfo hzs hby hs hx hown hext hv hr hk fun v' w' h2 h3 => hK _ _ (h v' w' h2 h3)
theorem step_append_rws (T e : TypeId) (z : Value) (bytes : Nat) {s x : Operand} {v : Value} {k m c : Nat} {A : Option Addr} {t r : List Ro} {ys : List Raw} (hgd : o.guard = none)
    (ho : o.op = .call { callee := .builtin .append, args := #[s, x], argTypes := #[T, T] })
    (ht : P.underlying T = some (.slice e)) (hinfo : (P.info? e).map (fun i => (i.zero, i.size, i.bytes)) = some (some z, shRaw.size, bytes)) (hzs : z.cells.size = 2) (hby : bytes ≤ 1000)
    (hs : a.eval s = v) (hx : a.eval x = .slice A m c) (hown : OwnR wx w.heap.size e v k t) (hext : Ext w wx) (hv : Vec shRaw wx A m ys) (hr : RosAt wx (Kr wx w.heap.size v) ys r) (hk : k + m ≤ 1000000)
    (h : ∀ v' w1, OwnR w1 w.heap.size e v' (k + m) (t ++ r) → Hid (Ext w w1) → K (a.put o.dst v') w1) :
    if Region.wanted o (yielded ops a.tmps) = true then Oper.wp P o a wx K Q else E := by
  have hw : Region.wanted o (yielded ops a.tmps) = true := by simp [Region.wanted, hgd]
  rw [if_pos hw]
  exact wp_append_rws T e z bytes ho ht hinfo hzs hby hs hx hown hext hv hr hk h
end
section
variable {H : Type} {enc : TypeId × Value → H} {w : World} {base : Nat} {spare : Nat → Bool} {held : Bool}
/-- how a slice among the cells of what comes in is opened -/
theorem open_vecT {α : Type} {S : Shp α} {P : Program} {Q : α → Prop} {t e : TypeId} {v : Value} {fuel : Nat} {y : DataW H × List MemPlace} (ht : P.underlying t = some (.slice e)) (hC : P.cellsOf e = S.size)
    (hR : ∀ (fuel : Nat) (cs : List Value) (y : DataW H × List MemPlace), cs.length = S.size → DataW.trod enc P w base spare held fuel e cs = some y → ∃ x, cs = S.cells x ∧ Q x)
    (hf : DataW.trod enc P w base spare held fuel t [v] = some y) : ∃ (A : Option Addr) (n c : Nat) (l : List α), v = .slice A n c ∧ Vec S w A n l ∧ n ≤ maxLen ∧ ∀ x ∈ l, Q x := by
  rcases Go.Deep.open_slice ht hf with ⟨hcs, _⟩ | ⟨a, len, cap, m, n, D, Pl, hcs, _, hl, hm, hmm, _, hi⟩
  · simp only [List.cons.injEq, and_true] at hcs
    subst hcs
    exact ⟨none, 0, 0, [], rfl, Vec.none_ _ _ _, by unfold maxLen; omega, fun x hx => by cases hx⟩
  · simp only [List.cons.injEq, and_true] at hcs
    subst hcs
    have hmn : len ≤ m := by rw [hmm]; split <;> omega
    have key : ∀ k, k ≤ m → ∃ l : List α, l.length = k ∧ (∀ x ∈ l, Q x) ∧ ∀ i x, l[i]? = some x → ∀ j u, (S.cells x)[j]? = some u → w.cell? (a.add (i * S.size + j)) = some u := by
      intro k
      induction k with
      | zero => intro _; exact ⟨[], rfl, fun x hx => (by cases hx), fun i x hx => by simp at hx⟩
      | succ k ih =>
        intro hk
        obtain ⟨l, hl1, hlq, hl2⟩ := ih (by omega)
        obtain ⟨cs', hc1, hc2⟩ := hi k (by omega)
        rw [hC] at hc1
        obtain ⟨_, hc3, hc4⟩ := World.cells?_some hc1
        obtain ⟨x, rfl, hqx⟩ := hR n cs' _ hc3 hc2
        refine ⟨l ++ [x], by simp [hl1], fun z hz => (by
          rcases List.mem_append.1 hz with h | h
          · exact hlq z h
          · simp at h; subst h; exact hqx), fun i y hy j u hu => ?_⟩
        rcases Nat.lt_or_ge i k with hik | hik
        · rw [List.getElem?_append_left (by omega)] at hy
          exact hl2 i y hy j u hu
        · rw [List.getElem?_append_right (by omega), hl1] at hy
          obtain ⟨h0, h1⟩ := List.getElem?_eq_some_iff.1 hy
          have hik : i = k := by simp at h0; omega
          subst hik
          simp at h1
          subst h1
          have hj : j < S.size := by rw [← S.len x]; exact (List.getElem?_eq_some_iff.1 hu).1
          rw [← Go.Deep.add_add, hc4 j hj]
          exact hu
    obtain ⟨l, hl1, hlq, hl2⟩ := key len hmn
    refine ⟨some a, len, cap, l, rfl, Vec.of_add hl1 fun hn => ⟨a, rfl, ?_, hl2⟩, by omega, hlq⟩
    obtain ⟨x0, h0⟩ : ∃ x, l[0]? = some x := ⟨l[0]'(by omega), List.getElem?_eq_getElem (by omega)⟩
    obtain ⟨u0, hu0⟩ : ∃ u, (S.cells x0)[0]? = some u := ⟨(S.cells x0)[0]'(by rw [S.len]; exact S.pos), List.getElem?_eq_getElem (by rw [S.len]; exact S.pos)⟩
    have h1 := World.block_lt_of_cell? w _ (hl2 0 x0 h0 0 u0 hu0)
    simpa [Addr.add] using h1
/-- a slice of stitches among the cells of what comes in -/
theorem open_sts_in {fuel : Nat} {v : Value} {y : DataW H × List MemPlace} (h : DataW.trod enc Tryz.prog w base spare held fuel 44 [v] = some y) :
    ∃ (A : Option Addr) (n c : Nat) (l : List St), v = .slice A n c ∧ Vec shSt w A n l ∧ n ≤ maxLen ∧ Bytes l := by
  have hv : ∃ (A : Option Addr) (n c : Nat), v = .slice A n c := by
    rcases DataW.trod_slice Tryz.underlying44 h with ⟨h0, _⟩ | ⟨a, len, cap', elems, rest, m, hfu, hcs, _⟩
    · simp only [List.cons.injEq, and_true] at h0
      exact ⟨none, 0, 0, h0⟩
    · simp only [List.cons.injEq, and_true] at hcs
      exact ⟨some a, len, cap', hcs⟩
  obtain ⟨A, n, c, rfl⟩ := hv
  suffices hs : ∃ (A' : Option Addr) (n' c' : Nat) (l : List St), Value.slice A n c = .slice A' n' c' ∧ Vec shSt w A' n' l ∧ n' ≤ maxLen ∧ ∀ s ∈ l, 0 ≤ s.k ∧ s.k ≤ 255 by
    obtain ⟨A', n', c', l, h1, h2, h3, h4⟩ := hs
    exact ⟨A', n', c', l, h1, h2, h3, bytes_of h4⟩
  refine open_vecT Tryz.underlying44 (by kernel_rfl) (fun fuel cs y hl hy => ?_) h
  obtain ⟨xs, m, _, _, _, hxl, hel⟩ := DataW.trod_struct Tryz.underlying54 hy
  match cs, hl with
  | [c0, c1, c2, c3], _ =>
    match xs, hxl with
    | [y0, y1, y2, y3], _ =>
      have C0 : Tryz.prog.cellsOf 5 = 1 := by kernel_rfl
      have C1 : Tryz.prog.cellsOf 4 = 1 := by kernel_rfl
      have C2 : Tryz.prog.cellsOf 3 = 1 := by kernel_rfl
      have h0 := hel 0 _ rfl
      have h1 := hel 1 _ rfl
      have h2 := hel 2 _ rfl
      have h3 := hel 3 _ rfl
      simp [C0, C1, C2] at h0 h1 h2 h3
      obtain ⟨n0, e0, _, wf0⟩ := DataW.trod_int Tryz.underlying5 h0
      have hwf := bounds_u8 wf0
      obtain ⟨n1, e1, _⟩ := DataW.trod_bool Tryz.underlying4 h1
      obtain ⟨n2, e2, _⟩ := DataW.trod_int Tryz.underlying3 h2
      obtain ⟨n3, e3, _⟩ := DataW.trod_int Tryz.underlying3 h3
      simp at e0 e1 e2 e3
      subst e0
      subst e1
      subst e2
      subst e3
      exact ⟨⟨n0, n1, n2, n3⟩, rfl, hwf⟩
/-- a slice of rows among the cells of what comes in -/
theorem open_rows_in {fuel : Nat} {v : Value} {y : DataW H × List MemPlace} (h : DataW.trod enc Tryz.prog w base spare held fuel 22 [v] = some y) :
    ∃ (A : Option Addr) (n c : Nat) (l : List Ro), v = .slice A n c ∧ Rws w (fun _ => True) A n l := by
  obtain ⟨A, n, c, xs, e, hv, hm, hq⟩ := open_vecT (S := shRaw) (Q := fun x => ∃ r, RoAt w (fun _ => True) x r) Tryz.underlying22 (by kernel_rfl) (fun fuel cs y hl hy => by
    obtain ⟨xs, m, _, _, _, hxl, hel⟩ := DataW.trod_struct Tryz.underlying46 hy
    match cs, hl with
    | [c0, c1], _ =>
      match xs, hxl with
      | [y0, y1], _ =>
        have C1 : Tryz.prog.cellsOf 4 = 1 := by kernel_rfl
        have C2 : Tryz.prog.cellsOf 44 = 1 := by kernel_rfl
        have h0 := hel 0 _ rfl
        have h1 := hel 1 _ rfl
        simp [C1, C2] at h0 h1
        obtain ⟨b, e1, _⟩ := DataW.trod_bool Tryz.underlying4 h0
        obtain ⟨A', n', c', l, rfl, hv, hm, hb⟩ := open_sts_in h1
        simp at e1
        subst e1
        exact ⟨⟨b, A', n', c'⟩, rfl, ⟨b, l⟩, rfl, hv, hm, hb, fun _ _ _ _ => trivial⟩) h
  have key : ∀ xs : List Raw, (∀ x ∈ xs, ∃ r, RoAt w (fun _ => True) x r) → ∃ l, RosAt w (fun _ => True) xs l := by
    intro xs
    induction xs with
    | nil => intro _; exact ⟨[], rfl, fun k hk => by simp at hk⟩
    | cons x xs ih =>
      intro hx
      obtain ⟨r, hr⟩ := hx x (by simp)
      obtain ⟨l, hl⟩ := ih (fun z hz => hx z (by simp [hz]))
      refine ⟨r :: l, by simp [hl.1], fun k hk => ?_⟩
      cases k with
      | zero => simpa using hr
      | succ k => simpa using hl.2 k (by simpa using hk)
  obtain ⟨l, hl⟩ := key xs hq
  exact ⟨A, n, c, l, e, hm, xs, hv, fun _ _ _ _ => trivial, hl⟩
/-- a chart that comes in -/
theorem open_chart_arg {r : Reach} {b0 : Nat} {v : Value} {d : DataW H} {p : List MemPlace} (hv : Value.okWide Tryz.prog w r b0 24 v) (h : DataW.Trod enc Tryz.prog w base spare held 24 v d p) :
    ∃ (s : Int) (A : Option Addr) (n c : Nat) (l : List Ro), v = .agg #[.int .i64 s, .slice A n c] ∧ Rws w (fun _ => True) A n l := by
  obtain ⟨v0, v1, y0, y1, n, rfl, -, -, h0, h1⟩ := open_agg2 Tryz.underlying24 (by kernel_rfl) (by kernel_rfl) hv h
  obtain ⟨s, e0, -, -⟩ := DataW.trod_int Tryz.underlying3 h0
  obtain ⟨A, n, c, l, rfl, hl⟩ := open_rows_in h1
  simp at e0
  subst e0
  exact ⟨s, A, n, c, l, rfl, hl⟩
end
end Go.Proofs.YtjjhoonkooihjaaGreatDoor
