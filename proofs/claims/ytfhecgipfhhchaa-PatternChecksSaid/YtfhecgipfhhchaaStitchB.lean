/- The contracts of Check, sum, All, Uses, Makes and Same of stitch. -/
import Derived.Test.YtfhecgipfhhchaaStitchA
namespace Go.Proofs.Ytfhecgipfhhchaa
set_option maxRecDepth 100000
open Go.RowKit

set_option maxHeartbeats 1000000 in
theorem check_any (k : Int) (p : Bool) (a b : Int) (h0 : 0 ≤ k) (h1 : k ≤ 255) (w : World) :
    Calls Try.prog 47 #[.agg #[.int .u8 k, .bool p, .int .i64 a, .int .i64 b]] w fun e w' => e = .returned (.int .i64 (okE ⟨k, p, a, b⟩)) ∧ Ext w w' := by
  cases hk : kindB k
  · have HE := Lib.hid (show okE ⟨k, p, a, b⟩ = 8 by simp [okE, okSt, hk])
    go_enter Try.func47, Try.ntmps47
    go_wp2_with (go_at_call 48; ((with_reducible refine (forms_no k h0 h1 hk _).mono ?_); rintro e w1 ⟨rfl, hq1⟩; unfold form0))
    go_ret
    exact ⟨by rw [HE.out]; rfl, by repeat (first | exact Ext.refl _ | assumption | refine Ext.alloc ?_ _ | refine Ext.drew ?_ | refine Ext.drewN ?_ _ | refine Ext.trans ?_ (by assumption))⟩
  cases ha : inR a (fa0 k) (fa1 k)
  · have HE := Lib.hid (show okE ⟨k, p, a, b⟩ = 8 by simp [okE, okSt, hk, ha])
    go_enter Try.func47, Try.ntmps47
    go_wp2_with (first | (go_at_call 48; ((with_reducible refine (forms_ok k hk _).mono ?_); rintro e w1 ⟨rfl, hq1⟩; unfold formV; obtain ⟨hf1, hf2, hf3⟩ := hq1.facts)) | (go_at_call 51; ((with_reducible refine (within_any a (fa0 k) (fa1 k) _).mono ?_); rintro e w2 ⟨rfl, hq2⟩; obtain ⟨hg1, hg2, hg3⟩ := hq2.facts; obtain ⟨hh1, hh2, hh3⟩ := (Ext.trans ((hq1.alloc _)) hq2).facts)))
    go_ret
    exact ⟨by rw [HE.out]; rfl, by repeat (first | exact Ext.refl _ | assumption | refine Ext.alloc ?_ _ | refine Ext.drew ?_ | refine Ext.drewN ?_ _ | refine Ext.trans ?_ (by assumption))⟩
  cases hb : inR b (fb0 k) (fb1 k)
  · have HE := Lib.hid (show okE ⟨k, p, a, b⟩ = 8 by simp [okE, okSt, hk, ha, hb])
    go_enter Try.func47, Try.ntmps47
    go_wp2_with (first | (go_at_call 48; ((with_reducible refine (forms_ok k hk _).mono ?_); rintro e w1 ⟨rfl, hq1⟩; unfold formV; obtain ⟨hf1, hf2, hf3⟩ := hq1.facts)) | (go_at_call 51; ((with_reducible refine (within_any a (fa0 k) (fa1 k) _).mono ?_); rintro e w2 ⟨rfl, hq2⟩; obtain ⟨hg1, hg2, hg3⟩ := hq2.facts; obtain ⟨hh1, hh2, hh3⟩ := (Ext.trans ((hq1.alloc _)) hq2).facts)) | (go_at_call 51; ((with_reducible refine (within_any b (fb0 k) (fb1 k) _).mono ?_); rintro e w3 ⟨rfl, hq3⟩; obtain ⟨hi1, hi2, hi3⟩ := (hq2.trans hq3).facts; obtain ⟨hj1, hj2, hj3⟩ := (Ext.trans (Ext.trans ((hq1.alloc _)) hq2) hq3).facts)))
    go_ret
    exact ⟨by rw [HE.out]; rfl, by repeat (first | exact Ext.refl _ | assumption | refine Ext.alloc ?_ _ | refine Ext.drew ?_ | refine Ext.drewN ?_ _ | refine Ext.trans ?_ (by assumption))⟩
  have HE := Lib.hid (show okE ⟨k, p, a, b⟩ = if (p && !fsd k) then 8 else 0 by cases p <;> cases e : fsd k <;> simp [okE, okSt, hk, ha, hb, e])
  cases p
  · go_enter Try.func47, Try.ntmps47
    go_wp2_with (first | (go_at_call 48; ((with_reducible refine (forms_ok k hk _).mono ?_); rintro e w1 ⟨rfl, hq1⟩; unfold formV; obtain ⟨hf1, hf2, hf3⟩ := hq1.facts)) | (go_at_call 51; ((with_reducible refine (within_any a (fa0 k) (fa1 k) _).mono ?_); rintro e w2 ⟨rfl, hq2⟩; obtain ⟨hg1, hg2, hg3⟩ := hq2.facts; obtain ⟨hh1, hh2, hh3⟩ := (Ext.trans ((hq1.alloc _)) hq2).facts)) | (go_at_call 51; ((with_reducible refine (within_any b (fb0 k) (fb1 k) _).mono ?_); rintro e w3 ⟨rfl, hq3⟩; obtain ⟨hi1, hi2, hi3⟩ := (hq2.trans hq3).facts; obtain ⟨hj1, hj2, hj3⟩ := (Ext.trans (Ext.trans ((hq1.alloc _)) hq2) hq3).facts)))
    go_ret
    exact ⟨by rw [HE.out]; rfl, by repeat (first | exact Ext.refl _ | assumption | refine Ext.alloc ?_ _ | refine Ext.drew ?_ | refine Ext.drewN ?_ _ | refine Ext.trans ?_ (by assumption))⟩
  cases hs : fsd k
  all_goals
    rw [hs] at HE
    go_enter Try.func47, Try.ntmps47
    go_wp2_with (first | (go_at_call 48; ((with_reducible refine (forms_ok k hk _).mono ?_); rintro e w1 ⟨rfl, hq1⟩; unfold formV; obtain ⟨hf1, hf2, hf3⟩ := hq1.facts)) | (go_at_call 51; ((with_reducible refine (within_any a (fa0 k) (fa1 k) _).mono ?_); rintro e w2 ⟨rfl, hq2⟩; obtain ⟨hg1, hg2, hg3⟩ := hq2.facts; obtain ⟨hh1, hh2, hh3⟩ := (Ext.trans ((hq1.alloc _)) hq2).facts)) | (go_at_call 51; ((with_reducible refine (within_any b (fb0 k) (fb1 k) _).mono ?_); rintro e w3 ⟨rfl, hq3⟩; obtain ⟨hi1, hi2, hi3⟩ := (hq2.trans hq3).facts; obtain ⟨hj1, hj2, hj3⟩ := (Ext.trans (Ext.trans ((hq1.alloc _)) hq2) hq3).facts)))
    go_ret
    exact ⟨by rw [HE.out]; rfl, by repeat (first | exact Ext.refl _ | assumption | refine Ext.alloc ?_ _ | refine Ext.drew ?_ | refine Ext.drewN ?_ _ | refine Ext.trans ?_ (by assumption))⟩

theorem loops_any (k : Int) (p : Bool) (a b how : Int) (ha : -1000 ≤ a ∧ a ≤ 1000) (hb : -1000 ≤ b ∧ b ≤ 1000) (hh : 0 ≤ how ∧ how ≤ 3) (w : World) :
    Calls Try.prog 49 #[.agg #[.int .u8 k, .bool p, .int .i64 a, .int .i64 b], .int .i64 how] w fun e w' => e = .returned (.int .i64 (lpV a b how)) ∧ Ext w w' := by
  obtain ⟨ha0, ha1⟩ := ha
  obtain ⟨hb0, hb1⟩ := hb
  have i0 : ∀ (x y : Int) w, (Instr.index 70 (.agg #[.int .i64 0, .int .i64 1, .int .i64 x, .int .i64 y]) (.int .i64 0)).run Try.prog w = .ok (.int .i64 0) w := fun _ _ _ => by kernel_rfl
  have i1 : ∀ (x y : Int) w, (Instr.index 70 (.agg #[.int .i64 0, .int .i64 1, .int .i64 x, .int .i64 y]) (.int .i64 1)).run Try.prog w = .ok (.int .i64 1) w := fun _ _ _ => by kernel_rfl
  have i2 : ∀ (x y : Int) w, (Instr.index 70 (.agg #[.int .i64 0, .int .i64 1, .int .i64 x, .int .i64 y]) (.int .i64 2)).run Try.prog w = .ok (.int .i64 x) w := fun _ _ _ => by kernel_rfl
  have i3 : ∀ (x y : Int) w, (Instr.index 70 (.agg #[.int .i64 0, .int .i64 1, .int .i64 x, .int .i64 y]) (.int .i64 3)).run Try.prog w = .ok (.int .i64 y) w := fun _ _ _ => by kernel_rfl
  have hh' : how = 0 ∨ how = 1 ∨ how = 2 ∨ how = 3 := by omega
  rcases hh' with rfl | rfl | rfl | rfl
  all_goals
    go_enter Try.func49, Try.ntmps49
    go_wp2
    go_ret
    exact ⟨rfl, by repeat (first | exact Ext.refl _ | assumption | refine Ext.alloc ?_ _ | refine Ext.drew ?_ | refine Ext.drewN ?_ _ | refine Ext.trans ?_ (by assumption))⟩

set_option maxHeartbeats 1000000 in
theorem sum_any (n c : Nat) (A : Option Addr) (l : List St) (w : World) (hl : Vec shSt w A n l) (hn : n ≤ 200) (hb : allB l = true) :
    Calls Try.prog 41 #[.slice A n c] w fun e w' => e = .returned (.tuple #[.int .i64 (usL l), .int .i64 (mkL l)]) ∧ Ext w w' := by
  have HX := Lib.hid hl
  have HB := Lib.hid hb
  have HL := Lib.hid hl.1
  clear hl hb
  go_enter Try.func41, Try.ntmps41
  go_wp2_with fail
  go_loopw [2, 3, 10] (fun u m i wr => ∃ k : Nat, k ≤ n ∧ i = .int .i64 k ∧ u = .int .i64 (usL (l.take k)) ∧ m = .int .i64 (mkL (l.take k)) ∧ Hid (Ext w wr)) (fun _ _ i _ => n - (intOf i).toNat)
  case atStart => exact ⟨0, by omega, rfl, by simp [usL], by simp [mkL], Ext.refl _⟩
  case round =>
    obtain ⟨k, hk, rfl, rfl, rfl, hext⟩ := hrel
    have hxr := hext.out
    by_cases hlt : k < n
    · obtain ⟨b, off, rfl, hb1, hc⟩ := Sts.all (Vec.ext HX.out hext.out) (by omega)
      obtain ⟨c1, c2, c3, c4⟩ := hc k hlt
      have hz := World.block_lt_of_cell? wr _ c1
      have hok := allB_at HB.out (k := k) (by rw [HL.out]; exact hlt)
      have h1 := Lib.hid (usL_succ (l := l) (k := k) (by rw [HL.out]; exact hlt))
      have h2 := Lib.hid (mkL_succ (l := l) (k := k) (by rw [HL.out]; exact hlt))
      obtain ⟨⟨s1, s2⟩, ⟨s3, s4⟩⟩ := sums_bd HB.out k (by rw [HL.out]; omega)
      have hkd := Lib.hid (ok_kind hok)
      obtain ⟨⟨t1, t2, t3, t4⟩, ⟨t5, t6⟩, ⟨t7, t8⟩, ⟨t9, t10⟩, ⟨t11, t12⟩⟩ := ok_bd hok
      clear hc hok
      generalize l.getD k st0 = s at *
      obtain ⟨sk, sp, sa, sb⟩ := s
      simp only at c1 c2 c3 c4 t1 t2 t3 t4 t5 t6 t7 t8 t9 t10 t11 t12
      unfold usV at t5 t6 h1
      unfold mkV at t7 t8 h2
      simp only at t5 t6 t7 t8 h1 h2
      generalize usL (l.take k) = U at *
      generalize mkL (l.take k) = M at *
      go_wp2_with (first | (go_at_call 48; ((with_reducible refine (forms_ok sk hkd.out _).mono ?_); rintro e w1 ⟨rfl, hq1⟩; unfold formV; obtain ⟨hf1, hf2, hf3⟩ := hq1.facts)) | (go_at_call 49; ((with_reducible refine (loops_any sk sp sa sb (fus sk) (by omega) (by omega) (by omega) _).mono ?_); rintro e w2 ⟨rfl, hq2⟩; obtain ⟨hg1, hg2, hg3⟩ := hq2.facts; obtain ⟨hh1, hh2, hh3⟩ := (Ext.trans (hq1.alloc _) hq2).facts)) | (go_at_call 49; ((with_reducible refine (loops_any sk sp sa sb (fmd sk) (by omega) (by omega) (by omega) _).mono ?_); rintro e w3 ⟨rfl, hq3⟩)))
      go_roundw
      case rel => exact ⟨k + 1, by omega, by go_num, by rw [h1.out], by rw [h2.out], by repeat (first | exact Ext.refl _ | assumption | refine Ext.alloc ?_ _ | refine Ext.drew ?_ | refine Ext.drewN ?_ _ | refine Ext.trans ?_ (by assumption))⟩
      case measure => simp [intOf]; omega
    · obtain rfl : k = n := by omega
      have e1 : l.take k = l := List.take_of_length_le (by rw [HL.out]; omega)
      rw [e1]
      clear e1
      go_wp2
      go_ret2
      exact ⟨rfl, by repeat (first | exact Ext.refl _ | assumption | refine Ext.alloc ?_ _ | refine Ext.drew ?_ | refine Ext.drewN ?_ _ | refine Ext.trans ?_ (by assumption))⟩

theorem all1_any (k : Int) (p : Bool) (a b : Int) (h0 : 0 ≤ k) (h1 : k ≤ 255) (w : World) :
    Calls Try.prog 46 #[.agg #[.int .u8 k, .bool p, .int .i64 a, .int .i64 b]] w fun e w' => e = .returned (.bool (!okSt ⟨k, p, a, b⟩)) ∧ Ext w w' := by
  have HE := Lib.hid (show okE ⟨k, p, a, b⟩ = if okSt ⟨k, p, a, b⟩ then 0 else 8 from rfl)
  have hc := check_any k p a b h0 h1
  cases h : okSt ⟨k, p, a, b⟩
  all_goals
    rw [h] at HE
    rw [show okE ⟨k, p, a, b⟩ = _ from HE.out] at hc
    have HC := Lib.hid hc
    clear hc
    go_enter Try.func46, Try.ntmps46
    go_wp2_with (go_at_call 47; ((with_reducible refine (HC.out _).mono ?_); rintro e w1 ⟨rfl, hq1⟩))
    go_ret
    exact ⟨rfl, by repeat (first | exact Ext.refl _ | assumption | refine Ext.alloc ?_ _ | refine Ext.drew ?_ | refine Ext.drewN ?_ _ | refine Ext.trans ?_ (by assumption))⟩

set_option maxHeartbeats 1000000 in
theorem indexf_any (n c : Nat) (A : Option Addr) (l : List St) (w : World) (hl : Vec shSt w A n l) (hn : n ≤ maxLen) (hby : Bytes l) :
    Calls Try.prog 50 #[.slice A n c, .func (.func 46) #[] #[]] w fun e w' => (∃ j : Int, e = .returned (.int .i64 j) ∧ decide (0 ≤ j) = !allB l ∧ -1 ≤ j) ∧ Ext w w' := by
  have HX := Lib.hid hl
  have HL := Lib.hid hl.1
  have HBY := Lib.hid hby
  unfold maxLen at hn
  have hn2 : (n : Int) ≤ 9223372036854775807 := by omega
  clear hl hby hn
  go_enter Try.func50, Try.ntmps50
  go_wp2_with fail
  go_loopw [8] (fun i wr => ∃ k : Nat, k ≤ n ∧ i = .int .i64 k ∧ Hid (∀ j, j < k → okSt (l.getD j st0) = true) ∧ Hid (Ext w wr)) (fun i _ => n - (intOf i).toNat)
  case atStart => exact ⟨0, by omega, rfl, fun j hj => absurd hj (by omega), Ext.refl _⟩
  case round =>
    obtain ⟨k, hk, rfl, hall, hext⟩ := hrel
    have hxr := hext.out
    by_cases hlt : k < n
    · obtain ⟨b, off, rfl, hb1, hc⟩ := Sts.all (Vec.ext HX.out hext.out) (by omega)
      obtain ⟨c1, c2, c3, c4⟩ := hc k hlt
      obtain ⟨y1, y2⟩ := HBY.out k (by rw [HL.out]; exact hlt)
      clear hc
      cases hr : okSt (l.getD k st0)
      · have HA := Lib.hid (allB_bad HL.out hlt hr)
        generalize l.getD k st0 = s at *
        obtain ⟨sk, sp, sa, sb⟩ := s
        simp only at c1 c2 c3 c4 y1 y2
        have HR := Lib.hid hr
        clear hr hall
        go_wp2_with fail
        refine (all1_any sk sp sa sb y1 y2 wr).mono ?_
        rintro e w1 ⟨rfl, hq1⟩
        rw [HR.out]
        go_wp2
        go_ret
        exact ⟨⟨k, rfl, by rw [HA.out]; simp, by omega⟩, by repeat (first | exact Ext.refl _ | assumption | refine Ext.alloc ?_ _ | refine Ext.drew ?_ | refine Ext.drewN ?_ _ | refine Ext.trans ?_ (by assumption))⟩
      · have HA := Lib.hid (show ∀ j, j < k + 1 → okSt (l.getD j st0) = true from fun j hj => by
            by_cases e : j = k
            · subst e; exact hr
            · exact hall.out j (by omega))
        generalize l.getD k st0 = s at *
        obtain ⟨sk, sp, sa, sb⟩ := s
        simp only at c1 c2 c3 c4 y1 y2
        have HR := Lib.hid hr
        clear hr hall
        go_wp2_with fail
        refine (all1_any sk sp sa sb y1 y2 wr).mono ?_
        rintro e w1 ⟨rfl, hq1⟩
        rw [HR.out]
        go_wp2
        go_roundw
        case rel => exact ⟨k + 1, by omega, by go_num, HA, by repeat (first | exact Ext.refl _ | assumption | refine Ext.alloc ?_ _ | refine Ext.drew ?_ | refine Ext.drewN ?_ _ | refine Ext.trans ?_ (by assumption))⟩
        case measure => simp [intOf]; omega
    · obtain rfl : k = n := by omega
      have HA := Lib.hid (allB_ok HL.out hall.out)
      go_wp2
      go_ret
      exact ⟨⟨-1, rfl, by rw [HA.out]; simp, by omega⟩, by repeat (first | exact Ext.refl _ | assumption | refine Ext.alloc ?_ _ | refine Ext.drew ?_ | refine Ext.drewN ?_ _ | refine Ext.trans ?_ (by assumption))⟩
theorem containsf_any (n c : Nat) (A : Option Addr) (l : List St) (w : World) (hl : Vec shSt w A n l) (hn : n ≤ maxLen) (hby : Bytes l) :
    Calls Try.prog 45 #[.slice A n c, .func (.func 46) #[] #[]] w fun e w' => e = .returned (.bool (!allB l)) ∧ Ext w w' := by
  have HI := Lib.hid (indexf_any n c A l w hl hn hby)
  go_enter Try.func45, Try.ntmps45
  go_wp2_with (go_at_call 50; ((with_reducible refine (HI.out).mono ?_); rintro e w1 ⟨⟨j, rfl, hj, hj2⟩, hq1⟩; have HJ := Lib.hid hj; clear hj))
  go_ret
  exact ⟨by rw [← HJ.out]; rfl, by repeat (first | exact Ext.refl _ | assumption | refine Ext.alloc ?_ _ | refine Ext.drew ?_ | refine Ext.drewN ?_ _ | refine Ext.trans ?_ (by assumption))⟩

set_option maxHeartbeats 1000000 in
theorem sall_any (n c : Nat) (A : Option Addr) (l : List St) (w : World) (hl : Vec shSt w A n l) (hn : n ≤ maxLen) (hby : Bytes l) :
    Calls Try.prog 40 #[.slice A n c] w fun e w' => e = .returned (.int .i64 (allE l)) ∧ Ext w w' := by
  have HX := Lib.hid hl
  have HL := Lib.hid hl.1
  have hn2 : (n : Int) ≤ 9223372036854775807 := by unfold maxLen at hn; omega
  by_cases h1 : 200 < n
  · have HE := Lib.hid (allE_many (l := l) (by rw [HL.out]; exact h1))
    clear hl hby
    go_enter Try.func40, Try.ntmps40
    go_wp2
    go_ret
    exact ⟨by rw [HE.out]; rfl, by repeat (first | exact Ext.refl _ | assumption | refine Ext.alloc ?_ _ | refine Ext.drew ?_ | refine Ext.drewN ?_ _ | refine Ext.trans ?_ (by assumption))⟩
  have HI := Lib.hid (containsf_any n c A l w hl hn hby)
  clear hl hby
  cases h2 : allB l
  · have HE := Lib.hid (allE_bad (l := l) (by rw [HL.out]; exact h1) h2)
    go_enter Try.func40, Try.ntmps40
    go_wp2_with (go_at_call 45; ((with_reducible refine (HI.out).mono ?_); rintro e w1 ⟨rfl, hq1⟩))
    go_ret
    exact ⟨by rw [HE.out]; rfl, by repeat (first | exact Ext.refl _ | assumption | refine Ext.alloc ?_ _ | refine Ext.drew ?_ | refine Ext.drewN ?_ _ | refine Ext.trans ?_ (by assumption))⟩
  have HB := Lib.hid h2
  have hsb := sums_bd h2 l.length (Nat.le_refl _)
  rw [List.take_of_length_le (Nat.le_refl _)] at hsb
  rw [HL.out] at hsb
  obtain ⟨⟨s1, s2⟩, ⟨s3, s4⟩⟩ := hsb
  have hmx : ∀ (ts : Array TypeId) (t : TypeId) (w : World), (Builtin.max_ ts t #[.int .i64 (usL l), .int .i64 (mkL l)]).run Try.prog w = .ok (.int .i64 (max (usL l) (mkL l))) w := fun ts t w => by
    rw [run_max_int2]; congr 2; split <;> omega
  by_cases h3 : 200 < max (usL l) (mkL l)
  · have HE := Lib.hid (allE_much (l := l) (by rw [HL.out]; exact h1) h2 h3)
    have h3' : decide (200 < max (usL l) (mkL l)) = true := by simpa using h3
    clear h3
    go_enter Try.func40, Try.ntmps40
    go_wp2_with (first | (go_at_call 45; ((with_reducible refine (HI.out).mono ?_); rintro e w1 ⟨rfl, hq1⟩)) | (go_at_call 41; ((with_reducible refine (sum_any n c A l _ (Vec.ext HX.out hq1) (by omega) HB.out).mono ?_); rintro e w2 ⟨rfl, hq2⟩)))
    go_ret
    exact ⟨by rw [HE.out]; rfl, by repeat (first | exact Ext.refl _ | assumption | refine Ext.alloc ?_ _ | refine Ext.drew ?_ | refine Ext.drewN ?_ _ | refine Ext.trans ?_ (by assumption))⟩
  · have HE := Lib.hid (allE_ok (l := l) (by rw [HL.out]; exact h1) h2 h3)
    have h3' : decide (200 < max (usL l) (mkL l)) = false := by simpa using h3
    clear h3
    go_enter Try.func40, Try.ntmps40
    go_wp2_with (first | (go_at_call 45; ((with_reducible refine (HI.out).mono ?_); rintro e w1 ⟨rfl, hq1⟩)) | (go_at_call 41; ((with_reducible refine (sum_any n c A l _ (Vec.ext HX.out hq1) (by omega) HB.out).mono ?_); rintro e w2 ⟨rfl, hq2⟩)))
    go_ret
    exact ⟨by rw [HE.out]; rfl, by repeat (first | exact Ext.refl _ | assumption | refine Ext.alloc ?_ _ | refine Ext.drew ?_ | refine Ext.drewN ?_ _ | refine Ext.trans ?_ (by assumption))⟩
end Go.Proofs.Ytfhecgipfhhchaa
