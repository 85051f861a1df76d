/- The walks of fine, the reference's fine, many and Great of terms. -/
import Derived.Test.YtfbfkoeaihknoaaGreatDoorG05
import Derived.Test.YtfbfkoeaihknoaaGreatDoorG06
import Derived.Test.YtfbfkoeaihknoaaGreatDoorG00
namespace Go.Proofs.YtfbfkoeaihknoaaGreatDoor
set_option maxRecDepth 100000
open Go.RowKit Go.ChangeShapes Go.WideShapes Go.Joins
theorem fine_badN {N : Int} {c : St} {g r : Tms} (h : inR N 1 200 = false) : fineT (.cons N c g r) = false := by
  by_cases hg : g = .nil
  · subst hg; rw [fine_one, h]; rfl
  · rw [fine_grp _ _ _ _ hg, h]; rfl
theorem fine_badC {N : Int} {c : St} {r : Tms} (h : okSt c = false) : fineT (.cons N c .nil r) = false := by
  rw [fine_one, h]; simp
theorem fine_badG {N : Int} {c : St} {g r : Tms} (hg : g ≠ .nil) (h : c ≠ st0 ∨ fineT g = false) : fineT (.cons N c g r) = false := by
  rw [fine_grp _ _ _ _ hg]
  rcases h with h | h
  · simp [h]
  · simp [h]
theorem fine_okC {N : Int} {c : St} {r : Tms} (h : inR N 1 200 = true) (h2 : okSt c = true) : fineT (.cons N c .nil r) = fineT r := by
  rw [fine_one, h, h2]; simp
theorem fine_okG {N : Int} {g r : Tms} (hg : g ≠ .nil) (h : inR N 1 200 = true) (h2 : fineT g = true) : fineT (.cons N st0 g r) = fineT r := by
  rw [fine_grp _ _ _ _ hg, h, h2]; simp
theorem okE_0 {s : St} (h : okSt s = true) : okE s = 0 := by rw [okE, h]; rfl
theorem okE_8 {s : St} (h : okSt s = false) : okE s = 8 := by rw [okE, h]; rfl
theorem chk_ok {k : Int} {p : Bool} {a b : Int} (h0 : 0 ≤ k) (h1 : k ≤ 255) (h : okSt ⟨k, p, a, b⟩ = true) (w : World) :
    Calls Tryz.prog 40 #[.agg #[.int .u8 k, .bool p, .int .i64 a, .int .i64 b]] w fun e w' => e = .returned (.int .i64 0) ∧ Ext w w' := by
  have := check_any k p a b h0 h1 w
  rwa [okE_0 h] at this
theorem chk_no {k : Int} {p : Bool} {a b : Int} (h0 : 0 ≤ k) (h1 : k ≤ 255) (h : okSt ⟨k, p, a, b⟩ = false) (w : World) :
    Calls Tryz.prog 40 #[.agg #[.int .u8 k, .bool p, .int .i64 a, .int .i64 b]] w fun e w' => e = .returned (.int .i64 8) ∧ Ext w w' := by
  have := check_any k p a b h0 h1 w
  rwa [okE_8 h] at this
theorem rchk_ok {k : Int} {p : Bool} {a b : Int} (h : okSt ⟨k, p, a, b⟩ = true) (w : World) :
    Calls Tryz.prog 35 #[.agg #[.int .u8 k, .bool p, .int .i64 a, .int .i64 b]] w fun e w' => e = .returned (.int .i64 0) ∧ Ext w w' := by
  have := rcheck_any k p a b w
  rwa [okE_0 h] at this
theorem rchk_no {k : Int} {p : Bool} {a b : Int} (h : okSt ⟨k, p, a, b⟩ = false) (w : World) :
    Calls Tryz.prog 35 #[.agg #[.int .u8 k, .bool p, .int .i64 a, .int .i64 b]] w fun e w' => e = .returned (.int .i64 8) ∧ Ext w w' := by
  have := rcheck_any k p a b w
  rwa [okE_8 h] at this
attribute [local go_sem] run_equalIn_st
set_option maxHeartbeats 4000000 in
theorem fine_any : ∀ (M : Nat), M ≤ 5000 → ∀ (t : Tms), t.size ≤ M → ∀ (A : Option Addr) (n cap : Nat) (w : World), Tv w A n t →
    Calls Tryz.prog 38 #[.slice A n cap] w fun e w' => e = .returned (.bool (fineT t)) ∧ Ext w w' := by
  intro M
  induction M using Nat.strongRecOn with
  | ind M ih =>
    intro hM t ht A n cap w hv
    have HI := Lib.hid ih
    have HV := Lib.hid hv
    have hnm : n ≤ 5000 := by have h1 := hv.1; have h2 := cnt_size t; omega
    clear ih hv
    go_enter Tryz.func38, Tryz.ntmps38
    go_wp2_with fail
    go_loopw [7] (fun i wr => ∃ (k : Nat) (rest : Tms), i = .int .i64 k ∧ rest.cnt + k = n ∧ rest.size ≤ M ∧
      Hid (fineT rest = fineT t ∧ Ext w wr ∧ (0 < rest.cnt → ∃ b off, A = some ⟨b, off, none⟩ ∧ b < wr.heap.size ∧ TAt wr rest b (off + k * 6)))) (fun i _ => n - (intOf i).toNat)
    case atStart =>
      refine ⟨0, t, rfl, by have := HV.out.1; omega, ht, Lib.hid ⟨rfl, Ext.refl _, fun h => ?_⟩⟩
      obtain ⟨h1, h2, h3⟩ := HV.out
      obtain ⟨b, off, e, hb, hc⟩ := h3 (by omega)
      exact ⟨b, off, e, hb, by simpa using hc⟩
    case round =>
      obtain ⟨k, rest, rfl, hcnt, hrs, HH⟩ := hrel
      by_cases hlt : 0 < rest.cnt
      · obtain ⟨N, c, g, r, rfl⟩ := cnt_cons hlt
        obtain ⟨b, off, rfl, hb1, hc⟩ := HH.out.2.2 hlt
        obtain ⟨A', n', cap', c0, c1, c2, c3, c4, c5, hkk, hg, hr⟩ := hc.head
        have hxr := HH.out.2.1
        simp only [Tms.cnt, Tms.size] at hcnt hrs
        have hkn : k < n := by omega
        have hz := World.block_lt_of_cell? wr _ c0
        have hcall := fun (w' : World) (h : Ext wr w') => HI.out (M - 1) (by omega) (by omega) g (by omega) A' n' cap' w' (hg.ext h)
        have HC := Lib.hid hcall
        have hgn := Lib.hid hg.1
        have q0 : (0 : Int) ≤ (k : Int) := by omega
        have q1 : (k : Int) < (n : Int) := by omega
        clear hcall hc
        obtain ⟨ck, cp, ca, cb⟩ := c
        simp only at c1 c2 c3 c4 hkk
        by_cases hN1 : N < 1
        · obtain ⟨e2, e3, -⟩ := HH.out
          have Q2 := Lib.hid (show fineT t = false by rw [← e2]; exact fine_badN (inR_f (.inl hN1)))
          clear e2
          go_wp2_with fail
          go_ret
          exact ⟨by rw [Q2.out]; rfl, by repeat (first | exact Ext.refl _ | assumption | refine Ext.alloc ?_ _ | refine Ext.drew ?_ | refine Ext.drewN ?_ _ | refine Ext.trans ?_ (by assumption))⟩
        by_cases hN2 : 200 < N
        · obtain ⟨e2, e3, -⟩ := HH.out
          have Q2 := Lib.hid (show fineT t = false by rw [← e2]; exact fine_badN (inR_f (.inr hN2)))
          clear e2
          have hN3 : decide (N < 1) = false := by simp; omega
          go_wp2_with fail
          go_ret
          exact ⟨by rw [Q2.out]; rfl, by repeat (first | exact Ext.refl _ | assumption | refine Ext.alloc ?_ _ | refine Ext.drew ?_ | refine Ext.drewN ?_ _ | refine Ext.trans ?_ (by assumption))⟩
        have hN3 : decide (N < 1) = false := by simp; omega
        have hN4 : decide (200 < N) = false := by simp; omega
        have HN := Lib.hid (show inR N 1 200 = true from inR_t (by omega) (by omega))
        by_cases hn' : 0 < n'
        · have hge : g ≠ .nil := by rintro rfl; have := hgn.out; simp [Tms.cnt] at this; omega
          have hne0 : ((n' : Int) == 0) = false := beq_eq_false_iff_ne.2 (by omega)
          by_cases hcz : (⟨ck, cp, ca, cb⟩ : St) = ⟨0, false, 0, 0⟩
          · simp only [St.mk.injEq] at hcz
            obtain ⟨rfl, rfl, rfl, rfl⟩ := hcz
            cases hfg : fineT g
            · obtain ⟨e2, e3, -⟩ := HH.out
              have Q2 := Lib.hid (show fineT t = false by rw [← e2]; exact fine_badG hge (.inr hfg))
              clear e2
              have HFG := Lib.hid hfg
              clear hfg
              go_wp2_with (go_at_call 38; ((with_reducible refine (HC.out _ (by repeat (first | exact Ext.refl _ | assumption | refine Ext.alloc ?_ _ | refine Ext.drew ?_ | refine Ext.drewN ?_ _ | refine Ext.trans ?_ (by assumption)))).mono ?_); rintro e w1 ⟨rfl, hq1⟩; rw [HFG.out]))
              go_ret
              exact ⟨by rw [Q2.out]; rfl, by repeat (first | exact Ext.refl _ | assumption | refine Ext.alloc ?_ _ | refine Ext.drew ?_ | refine Ext.drewN ?_ _ | refine Ext.trans ?_ (by assumption))⟩
            · have HG := Lib.hid (show fineT (.cons N st0 g r) = fineT r from fine_okG hge HN.out hfg)
              have HFG := Lib.hid hfg
              clear hfg
              go_wp2_with (go_at_call 38; ((with_reducible refine (HC.out _ (by repeat (first | exact Ext.refl _ | assumption | refine Ext.alloc ?_ _ | refine Ext.drew ?_ | refine Ext.drewN ?_ _ | refine Ext.trans ?_ (by assumption)))).mono ?_); rintro e w1 ⟨rfl, hq1⟩; rw [HFG.out]))
              go_roundw
              case rel =>
                have hxx : Ext wr w1 := by repeat (first | exact Ext.refl _ | assumption | refine Ext.alloc ?_ _ | refine Ext.drew ?_ | refine Ext.drewN ?_ _ | refine Ext.trans ?_ (by assumption))
                obtain ⟨e2, e3, -⟩ := HH.out
                refine ⟨k + 1, r, by go_num, by omega, by omega, Lib.hid ⟨by rw [← e2]; exact HG.out.symm, e3.trans hxx, fun h => ?_⟩⟩
                refine ⟨b, off, rfl, Nat.lt_of_lt_of_le hb1 (Below.size hxx), ?_⟩
                rw [show off + (k + 1) * 6 = off + k * 6 + 6 by omega]
                exact hr.ext hxx hb1
              case measure => simp [intOf]; omega
          · obtain ⟨e2, e3, -⟩ := HH.out
            have Q2 := Lib.hid (show fineT t = false by rw [← e2]; exact fine_badG hge (.inl hcz))
            clear e2
            have hne := run_st_ne (x' := 0) (y' := false) (z' := 0) (t' := 0) hcz
            clear hcz
            go_wp2_with fail
            go_ret
            exact ⟨by rw [Q2.out]; rfl, by repeat (first | exact Ext.refl _ | assumption | refine Ext.alloc ?_ _ | refine Ext.drew ?_ | refine Ext.drewN ?_ _ | refine Ext.trans ?_ (by assumption))⟩
        · obtain rfl := cnt_nil (t := g) (by have := hgn.out; omega)
          obtain rfl : n' = 0 := by omega
          cases hok : okSt ⟨ck, cp, ca, cb⟩
          · obtain ⟨e2, e3, -⟩ := HH.out
            have Q2 := Lib.hid (show fineT t = false by rw [← e2]; exact fine_badC hok)
            clear e2
            have HK := Lib.hid hok
            clear hok
            go_wp2_with (go_at_call 40; ((with_reducible refine (chk_no hkk.1 hkk.2 HK.out _).mono ?_); rintro e w1 ⟨rfl, hq1⟩))
            go_ret
            exact ⟨by rw [Q2.out]; rfl, by repeat (first | exact Ext.refl _ | assumption | refine Ext.alloc ?_ _ | refine Ext.drew ?_ | refine Ext.drewN ?_ _ | refine Ext.trans ?_ (by assumption))⟩
          · have HG := Lib.hid (show fineT (.cons N ⟨ck, cp, ca, cb⟩ .nil r) = fineT r from fine_okC HN.out hok)
            have HK := Lib.hid hok
            clear hok
            go_wp2_with (go_at_call 40; ((with_reducible refine (chk_ok hkk.1 hkk.2 HK.out _).mono ?_); rintro e w1 ⟨rfl, hq1⟩; obtain ⟨hf1, hf2, hf3⟩ := hq1.facts))
            go_roundw
            case rel =>
              have hxx : Ext wr w1 := by repeat (first | exact Ext.refl _ | assumption | refine Ext.alloc ?_ _ | refine Ext.drew ?_ | refine Ext.drewN ?_ _ | refine Ext.trans ?_ (by assumption))
              obtain ⟨e2, e3, -⟩ := HH.out
              refine ⟨k + 1, r, by go_num, by omega, by omega, Lib.hid ⟨by rw [← e2]; exact HG.out.symm, e3.trans hxx, fun h => ?_⟩⟩
              refine ⟨b, off, rfl, Nat.lt_of_lt_of_le hb1 (Below.size hxx), ?_⟩
              rw [show off + (k + 1) * 6 = off + k * 6 + 6 by omega]
              exact hr.ext hxx hb1
            case measure => simp [intOf]; omega
      · have hn0 : rest.cnt = 0 := by omega
        obtain rfl := cnt_nil hn0
        simp only [Tms.cnt] at hcnt
        obtain ⟨e2, e3, -⟩ := HH.out
        obtain rfl : k = n := by omega
        have Q2 := Lib.hid (show fineT t = true from e2.symm)
        clear e2
        go_wp2
        go_ret
        exact ⟨by rw [Q2.out]; rfl, by repeat (first | exact Ext.refl _ | assumption | refine Ext.alloc ?_ _ | refine Ext.drew ?_ | refine Ext.drewN ?_ _ | refine Ext.trans ?_ (by assumption))⟩
set_option maxHeartbeats 4000000 in
theorem rfine_any : ∀ (M : Nat), M ≤ 5000 → ∀ (t : Tms), t.size ≤ M → ∀ (A : Option Addr) (n cap : Nat) (w : World), Tv w A n t →
    Calls Tryz.prog 49 #[.slice A n cap] w fun e w' => e = .returned (.bool (fineT t)) ∧ Ext w w' := by
  intro M
  induction M using Nat.strongRecOn with
  | ind M ih =>
    intro hM t ht A n cap w hv
    have HI := Lib.hid ih
    have HV := Lib.hid hv
    have hnm : n ≤ 5000 := by have h1 := hv.1; have h2 := cnt_size t; omega
    clear ih hv
    go_enter Tryz.func49, Tryz.ntmps49
    go_wp2_with fail
    go_loopw [3] (fun i wr => ∃ (k : Nat) (rest : Tms), i = .int .i64 k ∧ rest.cnt + k = n ∧ rest.size ≤ M ∧
      Hid (fineT rest = fineT t ∧ Ext w wr ∧ (0 < rest.cnt → ∃ b off, A = some ⟨b, off, none⟩ ∧ b < wr.heap.size ∧ TAt wr rest b (off + k * 6)))) (fun i _ => n - (intOf i).toNat)
    case atStart =>
      refine ⟨0, t, rfl, by have := HV.out.1; omega, ht, Lib.hid ⟨rfl, Ext.refl _, fun h => ?_⟩⟩
      obtain ⟨h1, h2, h3⟩ := HV.out
      obtain ⟨b, off, e, hb, hc⟩ := h3 (by omega)
      exact ⟨b, off, e, hb, by simpa using hc⟩
    case round =>
      obtain ⟨k, rest, rfl, hcnt, hrs, HH⟩ := hrel
      by_cases hlt : 0 < rest.cnt
      · obtain ⟨N, c, g, r, rfl⟩ := cnt_cons hlt
        obtain ⟨b, off, rfl, hb1, hc⟩ := HH.out.2.2 hlt
        obtain ⟨A', n', cap', c0, c1, c2, c3, c4, c5, hkk, hg, hr⟩ := hc.head
        have hxr := HH.out.2.1
        simp only [Tms.cnt, Tms.size] at hcnt hrs
        have hkn : k < n := by omega
        have hz := World.block_lt_of_cell? wr _ c0
        have hcall := fun (w' : World) (h : Ext wr w') => HI.out (M - 1) (by omega) (by omega) g (by omega) A' n' cap' w' (hg.ext h)
        have HC := Lib.hid hcall
        have hgn := Lib.hid hg.1
        have q0 : (0 : Int) ≤ (k : Int) := by omega
        have q1 : (k : Int) < (n : Int) := by omega
        clear hcall hc
        obtain ⟨ck, cp, ca, cb⟩ := c
        simp only at c1 c2 c3 c4 hkk
        by_cases hN1 : N < 1
        · obtain ⟨e2, e3, -⟩ := HH.out
          have Q2 := Lib.hid (show fineT t = false by rw [← e2]; exact fine_badN (inR_f (.inl hN1)))
          clear e2
          go_wp2_with fail
          go_ret
          exact ⟨by rw [Q2.out]; rfl, by repeat (first | exact Ext.refl _ | assumption | refine Ext.alloc ?_ _ | refine Ext.drew ?_ | refine Ext.drewN ?_ _ | refine Ext.trans ?_ (by assumption))⟩
        by_cases hN2 : 200 < N
        · obtain ⟨e2, e3, -⟩ := HH.out
          have Q2 := Lib.hid (show fineT t = false by rw [← e2]; exact fine_badN (inR_f (.inr hN2)))
          clear e2
          have hN3 : decide (N < 1) = false := by simp; omega
          go_wp2_with fail
          go_ret
          exact ⟨by rw [Q2.out]; rfl, by repeat (first | exact Ext.refl _ | assumption | refine Ext.alloc ?_ _ | refine Ext.drew ?_ | refine Ext.drewN ?_ _ | refine Ext.trans ?_ (by assumption))⟩
        have hN3 : decide (N < 1) = false := by simp; omega
        have hN4 : decide (200 < N) = false := by simp; omega
        have HN := Lib.hid (show inR N 1 200 = true from inR_t (by omega) (by omega))
        by_cases hn' : 0 < n'
        · have hge : g ≠ .nil := by rintro rfl; have := hgn.out; simp [Tms.cnt] at this; omega
          have hne0 : ((n' : Int) == 0) = false := beq_eq_false_iff_ne.2 (by omega)
          by_cases hcz : (⟨ck, cp, ca, cb⟩ : St) = ⟨0, false, 0, 0⟩
          · simp only [St.mk.injEq] at hcz
            obtain ⟨rfl, rfl, rfl, rfl⟩ := hcz
            cases hfg : fineT g
            · obtain ⟨e2, e3, -⟩ := HH.out
              have Q2 := Lib.hid (show fineT t = false by rw [← e2]; exact fine_badG hge (.inr hfg))
              clear e2
              have HFG := Lib.hid hfg
              clear hfg
              go_wp2_with (go_at_call 49; ((with_reducible refine (HC.out _ (by repeat (first | exact Ext.refl _ | assumption | refine Ext.alloc ?_ _ | refine Ext.drew ?_ | refine Ext.drewN ?_ _ | refine Ext.trans ?_ (by assumption)))).mono ?_); rintro e w1 ⟨rfl, hq1⟩; rw [HFG.out]))
              go_ret
              exact ⟨by rw [Q2.out]; rfl, by repeat (first | exact Ext.refl _ | assumption | refine Ext.alloc ?_ _ | refine Ext.drew ?_ | refine Ext.drewN ?_ _ | refine Ext.trans ?_ (by assumption))⟩
            · have HG := Lib.hid (show fineT (.cons N st0 g r) = fineT r from fine_okG hge HN.out hfg)
              have HFG := Lib.hid hfg
              clear hfg
              go_wp2_with (go_at_call 49; ((with_reducible refine (HC.out _ (by repeat (first | exact Ext.refl _ | assumption | refine Ext.alloc ?_ _ | refine Ext.drew ?_ | refine Ext.drewN ?_ _ | refine Ext.trans ?_ (by assumption)))).mono ?_); rintro e w1 ⟨rfl, hq1⟩; rw [HFG.out]))
              go_roundw
              case rel =>
                have hxx : Ext wr w1 := by repeat (first | exact Ext.refl _ | assumption | refine Ext.alloc ?_ _ | refine Ext.drew ?_ | refine Ext.drewN ?_ _ | refine Ext.trans ?_ (by assumption))
                obtain ⟨e2, e3, -⟩ := HH.out
                refine ⟨k + 1, r, by go_num, by omega, by omega, Lib.hid ⟨by rw [← e2]; exact HG.out.symm, e3.trans hxx, fun h => ?_⟩⟩
                refine ⟨b, off, rfl, Nat.lt_of_lt_of_le hb1 (Below.size hxx), ?_⟩
                rw [show off + (k + 1) * 6 = off + k * 6 + 6 by omega]
                exact hr.ext hxx hb1
              case measure => simp [intOf]; omega
          · obtain ⟨e2, e3, -⟩ := HH.out
            have Q2 := Lib.hid (show fineT t = false by rw [← e2]; exact fine_badG hge (.inl hcz))
            clear e2
            have hne := run_st_ne (x' := 0) (y' := false) (z' := 0) (t' := 0) hcz
            clear hcz
            go_wp2_with fail
            go_ret
            exact ⟨by rw [Q2.out]; rfl, by repeat (first | exact Ext.refl _ | assumption | refine Ext.alloc ?_ _ | refine Ext.drew ?_ | refine Ext.drewN ?_ _ | refine Ext.trans ?_ (by assumption))⟩
        · obtain rfl := cnt_nil (t := g) (by have := hgn.out; omega)
          obtain rfl : n' = 0 := by omega
          cases hok : okSt ⟨ck, cp, ca, cb⟩
          · obtain ⟨e2, e3, -⟩ := HH.out
            have Q2 := Lib.hid (show fineT t = false by rw [← e2]; exact fine_badC hok)
            clear e2
            have HK := Lib.hid hok
            clear hok
            go_wp2_with (go_at_call 35; ((with_reducible refine (rchk_no  HK.out _).mono ?_); rintro e w1 ⟨rfl, hq1⟩))
            go_ret
            exact ⟨by rw [Q2.out]; rfl, by repeat (first | exact Ext.refl _ | assumption | refine Ext.alloc ?_ _ | refine Ext.drew ?_ | refine Ext.drewN ?_ _ | refine Ext.trans ?_ (by assumption))⟩
          · have HG := Lib.hid (show fineT (.cons N ⟨ck, cp, ca, cb⟩ .nil r) = fineT r from fine_okC HN.out hok)
            have HK := Lib.hid hok
            clear hok
            go_wp2_with (go_at_call 35; ((with_reducible refine (rchk_ok  HK.out _).mono ?_); rintro e w1 ⟨rfl, hq1⟩; obtain ⟨hf1, hf2, hf3⟩ := hq1.facts))
            go_roundw
            case rel =>
              have hxx : Ext wr w1 := by repeat (first | exact Ext.refl _ | assumption | refine Ext.alloc ?_ _ | refine Ext.drew ?_ | refine Ext.drewN ?_ _ | refine Ext.trans ?_ (by assumption))
              obtain ⟨e2, e3, -⟩ := HH.out
              refine ⟨k + 1, r, by go_num, by omega, by omega, Lib.hid ⟨by rw [← e2]; exact HG.out.symm, e3.trans hxx, fun h => ?_⟩⟩
              refine ⟨b, off, rfl, Nat.lt_of_lt_of_le hb1 (Below.size hxx), ?_⟩
              rw [show off + (k + 1) * 6 = off + k * 6 + 6 by omega]
              exact hr.ext hxx hb1
            case measure => simp [intOf]; omega
      · have hn0 : rest.cnt = 0 := by omega
        obtain rfl := cnt_nil hn0
        simp only [Tms.cnt] at hcnt
        obtain ⟨e2, e3, -⟩ := HH.out
        obtain rfl : k = n := by omega
        have Q2 := Lib.hid (show fineT t = true from e2.symm)
        clear e2
        go_wp2
        go_ret
        exact ⟨by rw [Q2.out]; rfl, by repeat (first | exact Ext.refl _ | assumption | refine Ext.alloc ?_ _ | refine Ext.drew ?_ | refine Ext.drewN ?_ _ | refine Ext.trans ?_ (by assumption))⟩
/-- how many terms the reference counts -/
def manyG (f : Tms → Int) : Int → Tms → Int
  | n, .nil => n
  | n, .cons _ _ g r => if n ≤ 250 then manyG f (n + 1 + f g) r else n
def manyT : Nat → Tms → Int
  | 0, t => if t.cnt = 0 then 0 else 251
  | d + 1, t => manyG (manyT d) 0 t
theorem manyG_bd {f : Tms → Int} {B : Int} (hf : ∀ g, 0 ≤ f g ∧ f g ≤ B) : ∀ (t : Tms) (n : Int), 0 ≤ n → n ≤ 251 + B → 0 ≤ manyG f n t ∧ manyG f n t ≤ 251 + B := by
  intro t
  induction t with
  | nil => intro n h0 h1; exact ⟨h0, h1⟩
  | cons N c g r _ ih =>
    intro n h0 h1
    rw [manyG]
    have := hf g
    split
    · exact ih _ (by omega) (by omega)
    · exact ⟨h0, h1⟩
theorem manyT_bd : ∀ (d : Nat) (t : Tms), 0 ≤ manyT d t ∧ manyT d t ≤ 251 * ((d : Int) + 1) := by
  intro d
  induction d with
  | zero => intro t; rw [manyT]; split <;> omega
  | succ d ih =>
    intro t
    rw [manyT]
    have := manyG_bd ih t 0 (by omega) (by omega)
    omega
theorem manyG_size {f : Tms → Int} (h0 : ∀ g, 0 ≤ f g) (hf : ∀ g, f g ≤ 250 → f g = g.size) : ∀ (t : Tms) (n : Int), 0 ≤ n → manyG f n t ≤ 250 → manyG f n t = n + t.size := by
  have ge : ∀ (t : Tms) (n : Int), n ≤ manyG f n t := by
    intro t
    induction t with
    | nil => intro n; exact Int.le_refl _
    | cons N c g r _ ih =>
      intro n
      rw [manyG]
      split
      · have := ih (n + 1 + f g)
        have := h0 g
        omega
      · exact Int.le_refl _
  intro t
  induction t with
  | nil => intro n _ _; simp [manyG, Tms.size]
  | cons N c g r _ ih =>
    intro n hn h
    rw [manyG] at h ⊢
    split at h
    · rename_i h1
      rw [if_pos h1]
      have h2 := ge r (n + 1 + f g)
      have h3 := h0 g
      have h4 := hf g (by omega)
      rw [ih _ (by omega) h, h4]
      simp only [Tms.size]
      omega
    · omega
theorem manyT_size : ∀ (d : Nat) (t : Tms), manyT d t ≤ 250 → manyT d t = t.size := by
  intro d
  induction d with
  | zero =>
    intro t h
    rw [manyT] at h ⊢
    split at h
    · rename_i h1
      rw [cnt_nil h1]; rfl
    · omega
  | succ d ih =>
    intro t h
    rw [manyT] at h ⊢
    have := manyG_size (fun g => (manyT_bd d g).1) ih t 0 (by omega) h
    omega
/-- whether a list is great -/
def greatT (t : Tms) : Bool := decide (250 < manyT 12 t)
theorem great_size {t : Tms} (h : greatT t = false) : t.size ≤ 250 := by
  have h1 : manyT 12 t ≤ 250 := by simp [greatT] at h; omega
  have := manyT_size 12 t h1
  omega
set_option maxHeartbeats 1000000 in
theorem many_any : ∀ (d : Nat), d ≤ 12 → ∀ (t : Tms) (x : Int), x = d → ∀ (A : Option Addr) (n cap : Nat) (w : World), Tv w A n t →
    Calls Tryz.prog 27 #[.slice A n cap, .int .i64 x] w fun e w' => e = .returned (.int .i64 (manyT d t)) ∧ Ext w w' := by
  intro d
  induction d with
  | zero =>
    intro hd t x hx A n cap w hv
    have HV := Lib.hid hv
    obtain rfl : x = 0 := by omega
    by_cases hn : n = 0
    · subst hn
      have HE := Lib.hid (show manyT 0 t = 0 by rw [manyT, if_pos HV.out.1])
      clear hx hv
      go_enter Tryz.func27, Tryz.ntmps27
      go_wp2_with fail
      refine wp_loop_rounds 1 ?_
      rw [rounds_succ]
      go_wp2_with fail
      go_ret
      exact ⟨by rw [HE.out]; rfl, by repeat (first | exact Ext.refl _ | assumption | refine Ext.alloc ?_ _ | refine Ext.drew ?_ | refine Ext.drewN ?_ _ | refine Ext.trans ?_ (by assumption))⟩
    · have HE := Lib.hid (show manyT 0 t = 251 by rw [manyT, if_neg (by have := HV.out.1; omega)])
      have hn1 : (0 : Int) < (n : Int) := by omega
      have hb : decide ((0 : Int) < (n : Int)) = true := by simp; omega
      clear hx hv
      go_enter Tryz.func27, Tryz.ntmps27
      go_wp2_with fail
      go_ret
      exact ⟨by rw [HE.out]; rfl, by repeat (first | exact Ext.refl _ | assumption | refine Ext.alloc ?_ _ | refine Ext.drew ?_ | refine Ext.drewN ?_ _ | refine Ext.trans ?_ (by assumption))⟩
  | succ d ih =>
    intro hd t x hx A n cap w hv
    have HI := Lib.hid (ih (by omega))
    have HV := Lib.hid hv
    have hnm := hv.2.1
    unfold maxLen at hnm
    have hn2 : (n : Int) ≤ 9223372036854775807 := by omega
    have hx0 : (x == 0) = false := beq_eq_false_iff_ne.2 (by omega)
    have hx1 : 1 ≤ x := by omega
    have hx2 : x ≤ 12 := by omega
    have HX := Lib.hid hx
    clear ih hv hx hnm
    go_enter Tryz.func27, Tryz.ntmps27
    go_wp2_with fail
    go_loopw [5, 6] (fun u i wr => ∃ (k : Nat) (U : Int) (rest : Tms), i = .int .i64 k ∧ u = .int .i64 U ∧ rest.cnt + k = n ∧ (0 ≤ U ∧ U ≤ 4000) ∧
      Hid (manyG (manyT d) U rest = manyT (d + 1) t ∧ Ext w wr ∧ (0 < rest.cnt → ∃ b off, A = some ⟨b, off, none⟩ ∧ b < wr.heap.size ∧ TAt wr rest b (off + k * 6)))) (fun _ i _ => n - (intOf i).toNat)
    case atStart =>
      refine ⟨0, 0, t, rfl, rfl, by have := HV.out.1; omega, by omega, Lib.hid ⟨rfl, Ext.refl _, fun h => ?_⟩⟩
      obtain ⟨h1, h2, h3⟩ := HV.out
      obtain ⟨b, off, e, hb, hc⟩ := h3 (by omega)
      exact ⟨b, off, e, hb, by simpa using hc⟩
    case round =>
      obtain ⟨k, U, rest, rfl, rfl, hcnt, ⟨hU0, hU1⟩, HH⟩ := hrel
      by_cases hlt : 0 < rest.cnt
      · obtain ⟨N, c, g, r, rfl⟩ := cnt_cons hlt
        simp only [Tms.cnt] at hcnt
        have hkn : k < n := by omega
        by_cases hU : U ≤ 250
        · obtain ⟨b, off, rfl, hb1, hc⟩ := HH.out.2.2 hlt
          obtain ⟨A', n', cap', c0, c1, c2, c3, c4, c5, hkk, hg, hr⟩ := hc.head
          have hxr := HH.out.2.1
          have hz := World.block_lt_of_cell? wr _ c0
          have hcall := fun (x' : Int) (hx' : x' = d) (w' : World) (h : Ext wr w') => HI.out g x' hx' A' n' cap' w' (hg.ext h)
          have HC := Lib.hid hcall
          clear hcall hc
          obtain ⟨hm0, hm1⟩ := manyT_bd d g
          have hG := Lib.hid (show manyG (manyT d) U (.cons N c g r) = manyG (manyT d) (U + 1 + manyT d g) r by rw [manyG, if_pos hU])
          generalize hmm : manyT d g = m at *
          have HMM := Lib.hid hmm
          clear hmm
          go_wp2_with (go_at_call 27; ((with_reducible refine (HC.out _ (by have := HX.out; omega) _ (by repeat (first | exact Ext.refl _ | assumption | refine Ext.alloc ?_ _ | refine Ext.drew ?_ | refine Ext.drewN ?_ _ | refine Ext.trans ?_ (by assumption)))).mono ?_); rintro e w1 ⟨rfl, hq1⟩))
          go_roundw
          case rel =>
            have hxx : Ext wr w1 := by repeat (first | exact Ext.refl _ | assumption | refine Ext.alloc ?_ _ | refine Ext.drew ?_ | refine Ext.drewN ?_ _ | refine Ext.trans ?_ (by assumption))
            obtain ⟨e2, e3, -⟩ := HH.out
            refine ⟨k + 1, U + 1 + m, r, by go_num, by go_num, by omega, by omega, Lib.hid ⟨by rw [← e2, hG.out], e3.trans hxx, fun h => ?_⟩⟩
            refine ⟨b, off, rfl, Nat.lt_of_lt_of_le hb1 (Below.size hxx), ?_⟩
            rw [show off + (k + 1) * 6 = off + k * 6 + 6 by omega]
            exact hr.ext hxx hb1
          case measure => simp [intOf]; omega
        · have hU' : decide (U ≤ 250) = false := by simp; omega
          obtain ⟨e2, e3, -⟩ := HH.out
          have q2 : manyT (d + 1) t = U := by rw [← e2, manyG, if_neg hU]
          have Q2 := Lib.hid q2
          clear q2
          go_wp2_with fail
          go_ret
          exact ⟨by rw [Q2.out]; rfl, by repeat (first | exact Ext.refl _ | assumption | refine Ext.alloc ?_ _ | refine Ext.drew ?_ | refine Ext.drewN ?_ _ | refine Ext.trans ?_ (by assumption))⟩
      · have hn0 : rest.cnt = 0 := by omega
        obtain rfl := cnt_nil hn0
        simp only [Tms.cnt] at hcnt
        obtain ⟨e2, e3, -⟩ := HH.out
        obtain rfl : k = n := by omega
        have Q2 := Lib.hid (show manyT (d + 1) t = U from e2.symm)
        clear e2
        go_wp2_with fail
        go_ret
        exact ⟨by rw [Q2.out]; rfl, by repeat (first | exact Ext.refl _ | assumption | refine Ext.alloc ?_ _ | refine Ext.drew ?_ | refine Ext.drewN ?_ _ | refine Ext.trans ?_ (by assumption))⟩
set_option maxHeartbeats 1000000 in
theorem great_any (t : Tms) (A : Option Addr) (n cap : Nat) (w : World) (hv : Tv w A n t) :
    Calls Tryz.prog 9 #[.slice A n cap] w fun e w' => e = .returned (.bool (greatT t)) ∧ Ext w w' := by
  have HV := Lib.hid hv
  obtain ⟨hm0, hm1⟩ := manyT_bd 12 t
  have HE := Lib.hid (show greatT t = decide (250 < manyT 12 t) from rfl)
  clear hv
  go_enter Tryz.func9, Tryz.ntmps9
  go_wp2_with (go_at_call 27; ((with_reducible refine (many_any 12 (by omega) t 12 (by omega) A n cap _ HV.out).mono ?_); rintro e w1 ⟨rfl, hq1⟩))
  go_ret
  exact ⟨by rw [HE.out]; rfl, by repeat (first | exact Ext.refl _ | assumption | refine Ext.alloc ?_ _ | refine Ext.drew ?_ | refine Ext.drewN ?_ _ | refine Ext.trans ?_ (by assumption))⟩
end Go.Proofs.YtfbfkoeaihknoaaGreatDoor
/- Cells appended to what a call has put together, and where it lies then. -/
namespace Go.Proofs.YtfbfkoeaihknoaaGreatDoor
set_option maxRecDepth 100000
open Go.RowKit Go.ChangeShapes Go.WideShapes Go.Joins
theorem own_blk {w : World} {B : Nat} {e : TypeId} {size : Nat} {v : Value} {n : Nat} {xs : List Value} (h : w.ownsRow B e size v n xs) : ∀ k, v.ownBlock = some k → B ≤ k ∧ k < w.heap.size := by
  intro k hk
  rcases h.2 with ⟨h1, _⟩ | ⟨g, cap, cur, h1, hb, hg, _⟩
  · subst h1; simp [Value.ownBlock] at hk
  · subst h1
    simp [Value.ownBlock] at hk
    subst hk
    exact ⟨hb, (Array.getElem?_eq_some_iff.1 hg).1⟩
section
variable {P : Program} {ops : Array Oper} {rest : List Oper} {o : Oper} {a : Act} {K : Act → World → Prop} {Q : Exit → Act → World → Prop} {E : Prop} {w wx : World}
/-- cells appended to what the call has put together -/
theorem wp_append_cells (T e : TypeId) (z : Value) (size bytes : Nat) {s x : Operand} {v : Value} {k m c : Nat} {A : Option Addr} {L news : List Value}
    (ho : o.op = .call { callee := .builtin .append, args := #[s, x], argTypes := #[T, T] })
    (ht : P.underlying T = some (.slice e)) (hinfo : (P.info? e).map (fun i => (i.zero, i.size, i.bytes)) = some (some z, size, bytes)) (hzs : z.cells.size = size) (hsz : 0 < size) (hby : bytes ≤ 1000)
    (hs : a.eval s = v) (hx : a.eval x = .slice A m c) (hown : wx.ownsRow w.heap.size e size v k L) (hext : Ext w wx) (hl : news.length = m * size)
    (hA : 0 < m → ∃ ad, A = some ad ∧ ∀ j u, news[j]? = some u → wx.cell? (ad.add j) = some u) (h1 : ∀ u ∈ news, u.oneCell' = true) (hk : k + m ≤ 1000000)
    (h : ∀ v' w1, w1.ownsRow w.heap.size e size v' (k + m) (L ++ news) → Ext w w1 → wx.grownBy w1 v.ownBlock → (v'.ownBlock = v.ownBlock ∨ v'.ownBlock = some wx.heap.size) → K (a.put o.dst v') w1) : o.wp P a wx K Q := by
  obtain ⟨i0, hi, hz0, hz1, hz2⟩ := info_parts hinfo
  have key : ∃ v' w1, (Builtin.append_ #[T, T] o.type #[v, .slice A m c]).run P wx = .ok v' w1 ∧ w1.ownsRow w.heap.size e size v' (k + m) (L ++ news) ∧ Ext w w1 ∧ wx.grownBy w1 v.ownBlock ∧ (v'.ownBlock = v.ownBlock ∨ v'.ownBlock = some wx.heap.size) := by
    rcases Nat.eq_zero_or_pos m with hm | hm
    · subst hm
      have hn : news = [] := List.eq_nil_of_length_eq_zero (by simpa using hl)
      subst hn
      rcases A with _ | ad
      · exact ⟨v, wx, run_append_of_nil wx _ T o.type e i0 size ht hi v k _ hown c, by simpa using hown, hext, World.grownBy.refl wx _, .inl rfl⟩
      · obtain ⟨v', w1, hrun, h2, h3, h4⟩ := run_append_own_at (P := P) wx w.heap.size T o.type e i0 z size bytes ht hi hz0 hz1 hz2 hzs hsz v k _ hown ad 0 c [] (by simp) (fun j u hu => by simp at hu)
          h1 (by unfold maxLen; omega) (by have := Nat.mul_le_mul (show k + 0 ≤ 1000000 by omega) hby; omega) (Below.size hext)
        exact ⟨v', w1, hrun, h2, Below.grown hext h3 (Below.size hext) (own_base hown), h3, h4.2⟩
    · obtain ⟨ad, rfl, hc⟩ := hA hm
      obtain ⟨v', w1, hrun, h2, h3, h4⟩ := run_append_own_at (P := P) wx w.heap.size T o.type e i0 z size bytes ht hi hz0 hz1 hz2 hzs hsz v k _ hown ad m c news hl hc
        h1 (by unfold maxLen; omega) (by have := Nat.mul_le_mul (show k + m ≤ 1000000 by omega) hby; omega) (Below.size hext)
      exact ⟨v', w1, hrun, h2, Below.grown hext h3 (Below.size hext) (own_base hown), h3, h4.2⟩
  obtain ⟨v', w1, hrun, h2, h3, h4, h5⟩ := key
  unfold Oper.wp execOp
  simp only [ho, resolve, invoke, builtin, Sem.run_bind, Sem.run_pure, Result.andThen_ok, List.map_toArray, List.map_cons, List.map_nil, hs, hx, hrun]
  exact h v' w1 h2 h3 h4 h5
/-- cells appended to a row of its own, wherever that began -/
theorem wp_append_cellsB (T e : TypeId) (z : Value) (size bytes : Nat) {s x : Operand} {v : Value} {k m c : Nat} {A : Option Addr} {L news : List Value}
    (ho : o.op = .call { callee := .builtin .append, args := #[s, x], argTypes := #[T, T] })
    (ht : P.underlying T = some (.slice e)) (hinfo : (P.info? e).map (fun i => (i.zero, i.size, i.bytes)) = some (some z, size, bytes)) (hzs : z.cells.size = size) (hsz : 0 < size) (hby : bytes ≤ 1000)
    (hs : a.eval s = v) (hx : a.eval x = .slice A m c) (B : Nat) (hown : wx.ownsRow B e size v k L) (hB : B ≤ wx.heap.size) (hl : news.length = m * size)
    (hA : 0 < m → ∃ ad, A = some ad ∧ ∀ j u, news[j]? = some u → wx.cell? (ad.add j) = some u) (h1 : ∀ u ∈ news, u.oneCell' = true) (hk : k + m ≤ 1000000)
    (h : ∀ v' w1, w1.ownsRow B e size v' (k + m) (L ++ news) → wx.grownBy w1 v.ownBlock → (v'.ownBlock = v.ownBlock ∨ v'.ownBlock = some wx.heap.size) → K (a.put o.dst v') w1) : o.wp P a wx K Q := by
  obtain ⟨i0, hi, hz0, hz1, hz2⟩ := info_parts hinfo
  have key : ∃ v' w1, (Builtin.append_ #[T, T] o.type #[v, .slice A m c]).run P wx = .ok v' w1 ∧ w1.ownsRow B e size v' (k + m) (L ++ news) ∧ wx.grownBy w1 v.ownBlock ∧ (v'.ownBlock = v.ownBlock ∨ v'.ownBlock = some wx.heap.size) := by
    rcases Nat.eq_zero_or_pos m with hm | hm
    · subst hm
      have hn : news = [] := List.eq_nil_of_length_eq_zero (by simpa using hl)
      subst hn
      rcases A with _ | ad
      · exact ⟨v, wx, run_append_of_nil wx _ T o.type e i0 size ht hi v k _ hown c, by simpa using hown, World.grownBy.refl wx _, .inl rfl⟩
      · obtain ⟨v', w1, hrun, h2, h3, h4⟩ := run_append_own_at (P := P) wx B T o.type e i0 z size bytes ht hi hz0 hz1 hz2 hzs hsz v k _ hown ad 0 c [] (by simp) (fun j u hu => by simp at hu)
          h1 (by unfold maxLen; omega) (by have := Nat.mul_le_mul (show k + 0 ≤ 1000000 by omega) hby; omega) hB
        exact ⟨v', w1, hrun, h2, h3, h4.2⟩
    · obtain ⟨ad, rfl, hc⟩ := hA hm
      obtain ⟨v', w1, hrun, h2, h3, h4⟩ := run_append_own_at (P := P) wx B T o.type e i0 z size bytes ht hi hz0 hz1 hz2 hzs hsz v k _ hown ad m c news hl hc
        h1 (by unfold maxLen; omega) (by have := Nat.mul_le_mul (show k + m ≤ 1000000 by omega) hby; omega) hB
      exact ⟨v', w1, hrun, h2, h3, h4.2⟩
  obtain ⟨v', w1, hrun, h2, h4, h5⟩ := key
  unfold Oper.wp execOp
  simp only [ho, resolve, invoke, builtin, Sem.run_bind, Sem.run_pure, Result.andThen_ok, List.map_toArray, List.map_cons, List.map_nil, hs, hx, hrun]
  exact h v' w1 h2 h4 h5
end
/-- a call has returned these stitches, made by itself -/
def StsR (l : List St) (w : World) (e : Ending) (w' : World) : Prop := ∃ (A : Option Addr) (n c : Nat), e = .returned (.slice A n c) ∧ Ext w w' ∧ Vec shSt w' A n l ∧ (0 < n → ∀ b off, A = some ⟨b, off, none⟩ → w.heap.size ≤ b)
/-- a list that lies elsewhere than in a block -/
def VecX (w : World) (X : Option Nat) (A : Option Addr) (n : Nat) (l : List St) : Prop := Vec shSt w A n l ∧ (0 < n → ∀ b off, A = some ⟨b, off, none⟩ → some b ≠ X)
theorem VecX.step {w w' : World} {X X' : Option Nat} {A : Option Addr} {n : Nat} {l : List St} (h : VecX w X A n l) (hb : w.grownBy w' X) (hx : X' = X ∨ X' = some w.heap.size) : VecX w' X' A n l := by
  refine ⟨⟨h.1.1, fun hn => ?_⟩, fun hn b off e => ?_⟩
  · obtain ⟨b, off, e, hlt, hc⟩ := h.1.2 hn
    exact ⟨b, off, e, Nat.lt_of_lt_of_le hlt (But.size hb), fun k x hx i u hu => (But.cell (p := ⟨b, off + (k * shSt.size + i), none⟩) hb hlt (h.2 hn b off e)).trans (hc k x hx i u hu)⟩
  · obtain ⟨b', off', e', hlt, _⟩ := h.1.2 hn
    rw [e] at e'
    cases e'
    rcases hx with hx | hx
    · rw [hx]; exact h.2 hn b off e
    · rw [hx]; intro e2; cases e2; omega
theorem VecX.ext {w w' : World} {X : Option Nat} {A : Option Addr} {n : Nat} {l : List St} (h : VecX w X A n l) (hb : Ext w w') : VecX w' X A n l := ⟨h.1.ext hb, h.2⟩
theorem OwnV.blk {α : Type} {S : Shp α} {w : World} {B : Nat} {e : TypeId} {v : Value} {k : Nat} {L : List α} (h : OwnV S w B e v k L) : ∀ b, v.ownBlock = some b → B ≤ b ∧ b < w.heap.size := own_blk h
theorem own_vecB {α : Type} {S : Shp α} {w : World} {B k : Nat} {e : TypeId} {v : Value} {L : List α} (h : OwnV S w B e v k L) : ∃ A c, v = .slice A k c ∧ Vec S w A k L ∧ (0 < k → ∀ b off, A = some ⟨b, off, none⟩ → B ≤ b) := by
  obtain ⟨A, c, rfl, hv⟩ := own_vec h
  refine ⟨A, c, rfl, hv, fun hk b off e => ?_⟩
  subst e
  exact (OwnV.blk h b (by simp [Value.ownBlock])).1
section
variable {α : Type} {S : Shp α} {P : Program} {ops : Array Oper} {rest : List Oper} {o : Oper} {a : Act} {Q : Exit → Act → World → Prop} {w wx : World}
/-- a list appended to what the call has put together; where it lies then -/
theorem wpList_append_vecsB (T e : TypeId) (z : Value) (bytes : Nat) {s x : Operand} {v : Value} {k m c : Nat} {A : Option Addr} {L xs : List α}
    (hgd : o.guard = none) (ho : o.op = .call { callee := .builtin .append, args := #[s, x], argTypes := #[T, T] })
    (ht : P.underlying T = some (.slice e)) (hinfo : (P.info? e).map (fun i => (i.zero, i.size, i.bytes)) = some (some z, S.size, bytes)) (hzs : z.cells.size = S.size) (hby : bytes ≤ 1000)
    (hs : a.eval s = v) (hx : a.eval x = .slice A m c) (hown : OwnV S wx w.heap.size e v k L) (hext : Ext w wx) (hxs : Vec S wx A m xs) (hk : k + m ≤ 1000000)
    (h : ∀ v' w1, OwnV S w1 w.heap.size e v' (k + m) (L ++ xs) → Hid (Ext w w1) → Hid (wx.grownBy w1 v.ownBlock ∧ (v'.ownBlock = v.ownBlock ∨ v'.ownBlock = some wx.heap.size)) → wpList P ops Q rest (a.put o.dst v') w1) : wpList P ops Q (o :: rest) a wx :=
  wpList_plain hgd fun _ hK => wp_append_cells (news := xs.flatMap S.cells) T e z S.size bytes ho ht hinfo hzs S.pos hby hs hx hown hext (by rw [flat_len, hxs.1])
    (fun hm => by
      obtain ⟨b, off, hA, _, _⟩ := hxs.2 hm
      subst hA
      exact ⟨_, rfl, hxs.cells_at⟩) (fun u hu => by obtain ⟨y, _, hy⟩ := List.mem_flatMap.1 hu; exact S.one y u hy) hk
    fun v' w' h2 h3 h4 h5 => hK _ _ (h v' w' (by unfold OwnV; rw [List.flatMap_append]; exact h2) h3 ⟨h4, h5⟩)
end
theorem But.grown {E X : Option Nat} {a b c : World} (h : But E a b) (k : b.grownBy c X) (hx : ∀ x, X = some x → a.heap.size ≤ x) : But E a c :=
  ⟨k.os.trans h.os, k.tape.trans h.tape, k.output.trans h.output, Nat.le_trans h.size k.size, fun i hi hne => (k.block i (Nat.lt_of_lt_of_le hi h.size) (fun e => by have := hx i e.symm; omega)).trans (h.block i hi hne)⟩
end Go.Proofs.YtfbfkoeaihknoaaGreatDoor
