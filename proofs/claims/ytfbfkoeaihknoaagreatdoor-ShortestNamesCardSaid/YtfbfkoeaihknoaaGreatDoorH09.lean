/- The walks of fine, the reference's fine, many and Great of terms. -/
import Derived.Test.YtfbfkoeaihknoaaGreatDoorH05
import Derived.Test.YtfbfkoeaihknoaaGreatDoorH08
import Derived.Test.YtfbfkoeaihknoaaGreatDoorH04
namespace Go.Proofs.YtfbfkoeaihknoaaGreatDoor
set_option maxRecDepth 100000
open Go.RowKit Go.ChangeShapes Go.WideShapes Go.Joins
theorem fine_badN {N : Int} {c : St} {g r : Tms} (h : inR N 1 200 = false) : fineT (.cons N c g r) = false := by
  by_cases hg : g = .nil
  · subst hg; rw [fine_one, h]; rfl
  · rw [fine_grp _ _ _ _ hg, h]; rfl
theorem fine_badC {N : Int} {c : St} {r : Tms} (h : okSt c = false) : fineT (.cons N c .nil r) = false := by
  rw [fine_one, h]; simp
theorem fine_badG {N : Int} {c : St} {g r : Tms} (hg : g ≠ .nil) (h : c ≠ st0 ∨ fineT g = false) : fineT (.cons N c g r) = false := by
  rw [fine_grp _ _ _ _ hg]
  rcases h with h | h
  · simp [h]
  · simp [h]
theorem fine_okC {N : Int} {c : St} {r : Tms} (h : inR N 1 200 = true) (h2 : okSt c = true) : fineT (.cons N c .nil r) = fineT r := by
  rw [fine_one, h, h2]; simp
theorem fine_okG {N : Int} {g r : Tms} (hg : g ≠ .nil) (h : inR N 1 200 = true) (h2 : fineT g = true) : fineT (.cons N st0 g r) = fineT r := by
  rw [fine_grp _ _ _ _ hg, h, h2]; simp
theorem okE_0 {s : St} (h : okSt s = true) : okE s = 0 := by rw [okE, h]; rfl
theorem okE_8 {s : St} (h : okSt s = false) : okE s = 8 := by rw [okE, h]; rfl
theorem chk_ok {k : Int} {p : Bool} {a b : Int} (h0 : 0 ≤ k) (h1 : k ≤ 255) (h : okSt ⟨k, p, a, b⟩ = true) (w : World) :
    Calls Tryz.prog 40 #[.agg #[.int .u8 k, .bool p, .int .i64 a, .int .i64 b]] w fun e w' => e = .returned (.int .i64 0) ∧ Ext w w' := by
  have := check_any k p a b h0 h1 w
  rwa [okE_0 h] at this
theorem chk_no {k : Int} {p : Bool} {a b : Int} (h0 : 0 ≤ k) (h1 : k ≤ 255) (h : okSt ⟨k, p, a, b⟩ = false) (w : World) :
    Calls Tryz.prog 40 #[.agg #[.int .u8 k, .bool p, .int .i64 a, .int .i64 b]] w fun e w' => e = .returned (.int .i64 8) ∧ Ext w w' := by
  have := check_any k p a b h0 h1 w
  rwa [okE_8 h] at this
theorem rchk_ok {k : Int} {p : Bool} {a b : Int} (h : okSt ⟨k, p, a, b⟩ = true) (w : World) :
    Calls Tryz.prog 35 #[.agg #[.int .u8 k, .bool p, .int .i64 a, .int .i64 b]] w fun e w' => e = .returned (.int .i64 0) ∧ Ext w w' := by
  have := rcheck_any k p a b w
  rwa [okE_0 h] at this
theorem rchk_no {k : Int} {p : Bool} {a b : Int} (h : okSt ⟨k, p, a, b⟩ = false) (w : World) :
    Calls Tryz.prog 35 #[.agg #[.int .u8 k, .bool p, .int .i64 a, .int .i64 b]] w fun e w' => e = .returned (.int .i64 8) ∧ Ext w w' := by
  have := rcheck_any k p a b w
  rwa [okE_8 h] at this
attribute [local go_sem] run_equalIn_st
set_option maxHeartbeats 4000000 in
theorem fine_any : ∀ (M : Nat), M ≤ 5000 → ∀ (t : Tms), t.size ≤ M → ∀ (A : Option Addr) (n cap : Nat) (w : World), Tv w A n t →
    Calls Tryz.prog 38 #[.slice A n cap] w fun e w' => e = .returned (.bool (fineT t)) ∧ Ext w w' := by
  intro M
  induction M using Nat.strongRecOn with
  | ind M ih =>
    intro hM t ht A n cap w hv
    have HI := Lib.hid ih
    have HV := Lib.hid hv
    have hnm : n ≤ 5000 := by have h1 := hv.1; have h2 := cnt_size t; omega
    clear ih hv
    go_enter Tryz.func38, Tryz.ntmps38
    go_wp2_with fail
    go_loopw [7] (fun i wr => ∃ (k : Nat) (rest : Tms), i = .int .i64 k ∧ rest.cnt + k = n ∧ rest.size ≤ M ∧
      Hid (fineT rest = fineT t ∧ Ext w wr ∧ (0 < rest.cnt → ∃ b off, A = some ⟨b, off, none⟩ ∧ b < wr.heap.size ∧ TAt wr rest b (off + k * 6)))) (fun i _ => n - (intOf i).toNat)
    case atStart =>
      refine ⟨0, t, rfl, by have := HV.out.1; omega, ht, Lib.hid ⟨rfl, Ext.refl _, fun h => ?_⟩⟩
      obtain ⟨h1, h2, h3⟩ := HV.out
      obtain ⟨b, off, e, hb, hc⟩ := h3 (by omega)
      exact ⟨b, off, e, hb, by simpa using hc⟩
    case round =>
      obtain ⟨k, rest, rfl, hcnt, hrs, HH⟩ := hrel
      by_cases hlt : 0 < rest.cnt
      · obtain ⟨N, c, g, r, rfl⟩ := cnt_cons hlt
        obtain ⟨b, off, rfl, hb1, hc⟩ := HH.out.2.2 hlt
        obtain ⟨A', n', cap', c0, c1, c2, c3, c4, c5, hkk, hg, hr⟩ := hc.head
        have hxr := HH.out.2.1
        simp only [Tms.cnt, Tms.size] at hcnt hrs
        have hkn : k < n := by omega
        have hz := World.block_lt_of_cell? wr _ c0
        have hcall := fun (w' : World) (h : Ext wr w') => HI.out (M - 1) (by omega) (by omega) g (by omega) A' n' cap' w' (hg.ext h)
        have HC := Lib.hid hcall
        have hgn := Lib.hid hg.1
        have q0 : (0 : Int) ≤ (k : Int) := by omega
        have q1 : (k : Int) < (n : Int) := by omega
        clear hcall hc
        obtain ⟨ck, cp, ca, cb⟩ := c
        simp only at c1 c2 c3 c4 hkk
        by_cases hN1 : N < 1
        · obtain ⟨e2, e3, -⟩ := HH.out
          have Q2 := Lib.hid (show fineT t = false by rw [← e2]; exact fine_badN (inR_f (.inl hN1)))
          clear e2
          go_wp2_with fail
          go_ret
          exact ⟨by rw [Q2.out]; rfl, by repeat (first | exact Ext.refl _ | assumption | refine Ext.alloc ?_ _ | refine Ext.drew ?_ | refine Ext.drewN ?_ _ | refine Ext.trans ?_ (by assumption))⟩
        by_cases hN2 : 200 < N
        · obtain ⟨e2, e3, -⟩ := HH.out
          have Q2 := Lib.hid (show fineT t = false by rw [← e2]; exact fine_badN (inR_f (.inr hN2)))
          clear e2
          have hN3 : decide (N < 1) = false := by simp; omega
          go_wp2_with fail
          go_ret
          exact ⟨by rw [Q2.out]; rfl, by repeat (first | exact Ext.refl _ | assumption | refine Ext.alloc ?_ _ | refine Ext.drew ?_ | refine Ext.drewN ?_ _ | refine Ext.trans ?_ (by assumption))⟩
        have hN3 : decide (N < 1) = false := by simp; omega
        have hN4 : decide (200 < N) = false := by simp; omega
        have HN := Lib.hid (show inR N 1 200 = true from inR_t (by omega) (by omega))
        by_cases hn' : 0 < n'
        · have hge : g ≠ .nil := by rintro rfl; have := hgn.out; simp [Tms.cnt] at this; omega
          have hne0 : ((n' : Int) == 0) = false := beq_eq_false_iff_ne.2 (by omega)
          by_cases hcz : (⟨ck, cp, ca, cb⟩ : St) = ⟨0, false, 0, 0⟩
          · simp only [St.mk.injEq] at hcz
            obtain ⟨rfl, rfl, rfl, rfl⟩ := hcz
            cases hfg : fineT g
            · obtain ⟨e2, e3, -⟩ := HH.out
              have Q2 := Lib.hid (show fineT t = false by rw [← e2]; exact fine_badG hge (.inr hfg))
              clear e2
              have HFG := Lib.hid hfg
              clear hfg
              go_wp2_with (go_at_call 38; ((with_reducible refine (HC.out _ (by repeat (first | exact Ext.refl _ | assumption | refine Ext.alloc ?_ _ | refine Ext.drew ?_ | refine Ext.drewN ?_ _ | refine Ext.trans ?_ (by assumption)))).mono ?_); rintro e w1 ⟨rfl, hq1⟩; rw [HFG.out]))
              go_ret
              exact ⟨by rw [Q2.out]; rfl, by repeat (first | exact Ext.refl _ | assumption | refine Ext.alloc ?_ _ | refine Ext.drew ?_ | refine Ext.drewN ?_ _ | refine Ext.trans ?_ (by assumption))⟩
            · have HG := Lib.hid (show fineT (.cons N st0 g r) = fineT r from fine_okG hge HN.out hfg)
              have HFG := Lib.hid hfg
              clear hfg
              go_wp2_with (go_at_call 38; ((with_reducible refine (HC.out _ (by repeat (first | exact Ext.refl _ | assumption | refine Ext.alloc ?_ _ | refine Ext.drew ?_ | refine Ext.drewN ?_ _ | refine Ext.trans ?_ (by assumption)))).mono ?_); rintro e w1 ⟨rfl, hq1⟩; rw [HFG.out]))
              go_roundw
              case rel =>
                have hxx : Ext wr w1 := by repeat (first | exact Ext.refl _ | assumption | refine Ext.alloc ?_ _ | refine Ext.drew ?_ | refine Ext.drewN ?_ _ | refine Ext.trans ?_ (by assumption))
                obtain ⟨e2, e3, -⟩ := HH.out
                refine ⟨k + 1, r, by go_num, by omega, by omega, Lib.hid ⟨by rw [← e2]; exact HG.out.symm, e3.trans hxx, fun h => ?_⟩⟩
                refine ⟨b, off, rfl, Nat.lt_of_lt_of_le hb1 (Below.size hxx), ?_⟩
                rw [show off + (k + 1) * 6 = off + k * 6 + 6 by omega]
                exact hr.ext hxx hb1
              case measure => simp [intOf]; omega
          · obtain ⟨e2, e3, -⟩ := HH.out
            have Q2 := Lib.hid (show fineT t = false by rw [← e2]; exact fine_badG hge (.inl hcz))
            clear e2
            have hne := run_st_ne (x' := 0) (y' := false) (z' := 0) (t' := 0) hcz
            clear hcz
            go_wp2_with fail
            go_ret
            exact ⟨by rw [Q2.out]; rfl, by repeat (first | exact Ext.refl _ | assumption | refine Ext.alloc ?_ _ | refine Ext.drew ?_ | refine Ext.drewN ?_ _ | refine Ext.trans ?_ (by assumption))⟩
        · obtain rfl := cnt_nil (t := g) (by have := hgn.out; omega)
          obtain rfl : n' = 0 := by omega
          cases hok : okSt ⟨ck, cp, ca, cb⟩
          · obtain ⟨e2, e3, -⟩ := HH.out
            have Q2 := Lib.hid (show fineT t = false by rw [← e2]; exact fine_badC hok)
            clear e2
            have HK := Lib.hid hok
            clear hok
            go_wp2_with (go_at_call 40; ((with_reducible refine (chk_no hkk.1 hkk.2 HK.out _).mono ?_); rintro e w1 ⟨rfl, hq1⟩))
            go_ret
            exact ⟨by rw [Q2.out]; rfl, by repeat (first | exact Ext.refl _ | assumption | refine Ext.alloc ?_ _ | refine Ext.drew ?_ | refine Ext.drewN ?_ _ | refine Ext.trans ?_ (by assumption))⟩
          · have HG := Lib.hid (show fineT (.cons N ⟨ck, cp, ca, cb⟩ .nil r) = fineT r from fine_okC HN.out hok)
            have HK := Lib.hid hok
            clear hok
            go_wp2_with (go_at_call 40; ((with_reducible refine (chk_ok hkk.1 hkk.2 HK.out _).mono ?_); rintro e w1 ⟨rfl, hq1⟩; obtain ⟨hf1, hf2, hf3⟩ := hq1.facts))
            go_roundw
            case rel =>
              have hxx : Ext wr w1 := by repeat (first | exact Ext.refl _ | assumption | refine Ext.alloc ?_ _ | refine Ext.drew ?_ | refine Ext.drewN ?_ _ | refine Ext.trans ?_ (by assumption))
              obtain ⟨e2, e3, -⟩ := HH.out
              refine ⟨k + 1, r, by go_num, by omega, by omega, Lib.hid ⟨by rw [← e2]; exact HG.out.symm, e3.trans hxx, fun h => ?_⟩⟩
              refine ⟨b, off, rfl, Nat.lt_of_lt_of_le hb1 (Below.size hxx), ?_⟩
              rw [show off + (k + 1) * 6 = off + k * 6 + 6 by omega]
              exact hr.ext hxx hb1
            case measure => simp [intOf]; omega
      · have hn0 : rest.cnt = 0 := by omega
        obtain rfl := cnt_nil hn0
        simp only [Tms.cnt] at hcnt
        obtain ⟨e2, e3, -⟩ := HH.out
        obtain rfl : k = n := by omega
        have Q2 := Lib.hid (show fineT t = true from e2.symm)
        clear e2
        go_wp2
        go_ret
        exact ⟨by rw [Q2.out]; rfl, by repeat (first | exact Ext.refl _ | assumption | refine Ext.alloc ?_ _ | refine Ext.drew ?_ | refine Ext.drewN ?_ _ | refine Ext.trans ?_ (by assumption))⟩
set_option maxHeartbeats 4000000 in
theorem rfine_any : ∀ (M : Nat), M ≤ 5000 → ∀ (t : Tms), t.size ≤ M → ∀ (A : Option Addr) (n cap : Nat) (w : World), Tv w A n t →
    Calls Tryz.prog 49 #[.slice A n cap] w fun e w' => e = .returned (.bool (fineT t)) ∧ Ext w w' := by
  intro M
  induction M using Nat.strongRecOn with
  | ind M ih =>
    intro hM t ht A n cap w hv
    have HI := Lib.hid ih
    have HV := Lib.hid hv
    have hnm : n ≤ 5000 := by have h1 := hv.1; have h2 := cnt_size t; omega
    clear ih hv
    go_enter Tryz.func49, Tryz.ntmps49
    go_wp2_with fail
    go_loopw [3] (fun i wr => ∃ (k : Nat) (rest : Tms), i = .int .i64 k ∧ rest.cnt + k = n ∧ rest.size ≤ M ∧
      Hid (fineT rest = fineT t ∧ Ext w wr ∧ (0 < rest.cnt → ∃ b off, A = some ⟨b, off, none⟩ ∧ b < wr.heap.size ∧ TAt wr rest b (off + k * 6)))) (fun i _ => n - (intOf i).toNat)
    case atStart =>
      refine ⟨0, t, rfl, by have := HV.out.1; omega, ht, Lib.hid ⟨rfl, Ext.refl _, fun h => ?_⟩⟩
      obtain ⟨h1, h2, h3⟩ := HV.out
      obtain ⟨b, off, e, hb, hc⟩ := h3 (by omega)
      exact ⟨b, off, e, hb, by simpa using hc⟩
    case round =>
      obtain ⟨k, rest, rfl, hcnt, hrs, HH⟩ := hrel
      by_cases hlt : 0 < rest.cnt
      · obtain ⟨N, c, g, r, rfl⟩ := cnt_cons hlt
        obtain ⟨b, off, rfl, hb1, hc⟩ := HH.out.2.2 hlt
        obtain ⟨A', n', cap', c0, c1, c2, c3, c4, c5, hkk, hg, hr⟩ := hc.head
        have hxr := HH.out.2.1
        simp only [Tms.cnt, Tms.size] at hcnt hrs
        have hkn : k < n := by omega
        have hz := World.block_lt_of_cell? wr _ c0
        have hcall := fun (w' : World) (h : Ext wr w') => HI.out (M - 1) (by omega) (by omega) g (by omega) A' n' cap' w' (hg.ext h)
        have HC := Lib.hid hcall
        have hgn := Lib.hid hg.1
        have q0 : (0 : Int) ≤ (k : Int) := by omega
        have q1 : (k : Int) < (n : Int) := by omega
        clear hcall hc
        obtain ⟨ck, cp, ca, cb⟩ := c
        simp only at c1 c2 c3 c4 hkk
        by_cases hN1 : N < 1
        · obtain ⟨e2, e3, -⟩ := HH.out
          have Q2 := Lib.hid (show fineT t = false by rw [← e2]; exact fine_badN (inR_f (.inl hN1)))
          clear e2
          go_wp2_with fail
          go_ret
          exact ⟨by rw [Q2.out]; rfl, by repeat (first | exact Ext.refl _ | assumption | refine Ext.alloc ?_ _ | refine Ext.drew ?_ | refine Ext.drewN ?_ _ | refine Ext.trans ?_ (by assumption))⟩
        by_cases hN2 : 200 < N
        · obtain ⟨e2, e3, -⟩ := HH.out
          have Q2 := Lib.hid (show fineT t = false by rw [← e2]; exact fine_badN (inR_f (.inr hN2)))
          clear e2
          have hN3 : decide (N < 1) = false := by simp; omega
          go_wp2_with fail
          go_ret
          exact ⟨by rw [Q2.out]; rfl, by repeat (first | exact Ext.refl _ | assumption | refine Ext.alloc ?_ _ | refine Ext.drew ?_ | refine Ext.drewN ?_ _ | refine Ext.trans ?_ (by assumption))⟩
        have hN3 : decide (N < 1) = false := by simp; omega
        have hN4 : decide (200 < N) = false := by simp; omega
        have HN := Lib.hid (show inR N 1 200 = true from inR_t (by omega) (by omega))
        by_cases hn' : 0 < n'
        · have hge : g ≠ .nil := by rintro rfl; have := hgn.out; simp [Tms.cnt] at this; omega
          have hne0 : ((n' : Int) == 0) = false := beq_eq_false_iff_ne.2 (by omega)
          by_cases hcz : (⟨ck, cp, ca, cb⟩ : St) = ⟨0, false, 0, 0⟩
          · simp only [St.mk.injEq] at hcz
            obtain ⟨rfl, rfl, rfl, rfl⟩ := hcz
            cases hfg : fineT g
            · obtain ⟨e2, e3, -⟩ := HH.out
              have Q2 := Lib.hid (show fineT t = false by rw [← e2]; exact fine_badG hge (.inr hfg))
              clear e2
              have HFG := Lib.hid hfg
              clear hfg
              go_wp2_with (go_at_call 49; ((with_reducible refine (HC.out _ (by repeat (first | exact Ext.refl _ | assumption | refine Ext.alloc ?_ _ | refine Ext.drew ?_ | refine Ext.drewN ?_ _ | refine Ext.trans ?_ (by assumption)))).mono ?_); rintro e w1 ⟨rfl, hq1⟩; rw [HFG.out]))
              go_ret
              exact ⟨by rw [Q2.out]; rfl, by repeat (first | exact Ext.refl _ | assumption | refine Ext.alloc ?_ _ | refine Ext.drew ?_ | refine Ext.drewN ?_ _ | refine Ext.trans ?_ (by assumption))⟩
            · have HG := Lib.hid (show fineT (.cons N st0 g r) = fineT r from fine_okG hge HN.out hfg)
              have HFG := Lib.hid hfg
              clear hfg
              go_wp2_with (go_at_call 49; ((with_reducible refine (HC.out _ (by repeat (first | exact Ext.refl _ | assumption | refine Ext.alloc ?_ _ | refine Ext.drew ?_ | refine Ext.drewN ?_ _ | refine Ext.trans ?_ (by assumption)))).mono ?_); rintro e w1 ⟨rfl, hq1⟩; rw [HFG.out]))
              go_roundw
              case rel =>
                have hxx : Ext wr w1 := by repeat (first | exact Ext.refl _ | assumption | refine Ext.alloc ?_ _ | refine Ext.drew ?_ | refine Ext.drewN ?_ _ | refine Ext.trans ?_ (by assumption))
                obtain ⟨e2, e3, -⟩ := HH.out
                refine ⟨k + 1, r, by go_num, by omega, by omega, Lib.hid ⟨by rw [← e2]; exact HG.out.symm, e3.trans hxx, fun h => ?_⟩⟩
                refine ⟨b, off, rfl, Nat.lt_of_lt_of_le hb1 (Below.size hxx), ?_⟩
                rw [show off + (k + 1) * 6 = off + k * 6 + 6 by omega]
                exact hr.ext hxx hb1
              case measure => simp [intOf]; omega
          · obtain ⟨e2, e3, -⟩ := HH.out
            have Q2 := Lib.hid (show fineT t = false by rw [← e2]; exact fine_badG hge (.inl hcz))
            clear e2
            have hne := run_st_ne (x' := 0) (y' := false) (z' := 0) (t' := 0) hcz
            clear hcz
            go_wp2_with fail
            go_ret
            exact ⟨by rw [Q2.out]; rfl, by repeat (first | exact Ext.refl _ | assumption | refine Ext.alloc ?_ _ | refine Ext.drew ?_ | refine Ext.drewN ?_ _ | refine Ext.trans ?_ (by assumption))⟩
        · obtain rfl := cnt_nil (t := g) (by have := hgn.out; omega)
          obtain rfl : n' = 0 := by omega
          cases hok : okSt ⟨ck, cp, ca, cb⟩
          · obtain ⟨e2, e3, -⟩ := HH.out
            have Q2 := Lib.hid (show fineT t = false by rw [← e2]; exact fine_badC hok)
            clear e2
            have HK := Lib.hid hok
            clear hok
            go_wp2_with (go_at_call 35; ((with_reducible refine (rchk_no  HK.out _).mono ?_); rintro e w1 ⟨rfl, hq1⟩))
            go_ret
            exact ⟨by rw [Q2.out]; rfl, by repeat (first | exact Ext.refl _ | assumption | refine Ext.alloc ?_ _ | refine Ext.drew ?_ | refine Ext.drewN ?_ _ | refine Ext.trans ?_ (by assumption))⟩
          · have HG := Lib.hid (show fineT (.cons N ⟨ck, cp, ca, cb⟩ .nil r) = fineT r from fine_okC HN.out hok)
            have HK := Lib.hid hok
            clear hok
            go_wp2_with (go_at_call 35; ((with_reducible refine (rchk_ok  HK.out _).mono ?_); rintro e w1 ⟨rfl, hq1⟩; obtain ⟨hf1, hf2, hf3⟩ := hq1.facts))
            go_roundw
            case rel =>
              have hxx : Ext wr w1 := by repeat (first | exact Ext.refl _ | assumption | refine Ext.alloc ?_ _ | refine Ext.drew ?_ | refine Ext.drewN ?_ _ | refine Ext.trans ?_ (by assumption))
              obtain ⟨e2, e3, -⟩ := HH.out
              refine ⟨k + 1, r, by go_num, by omega, by omega, Lib.hid ⟨by rw [← e2]; exact HG.out.symm, e3.trans hxx, fun h => ?_⟩⟩
              refine ⟨b, off, rfl, Nat.lt_of_lt_of_le hb1 (Below.size hxx), ?_⟩
              rw [show off + (k + 1) * 6 = off + k * 6 + 6 by omega]
              exact hr.ext hxx hb1
            case measure => simp [intOf]; omega
      · have hn0 : rest.cnt = 0 := by omega
        obtain rfl := cnt_nil hn0
        simp only [Tms.cnt] at hcnt
        obtain ⟨e2, e3, -⟩ := HH.out
        obtain rfl : k = n := by omega
        have Q2 := Lib.hid (show fineT t = true from e2.symm)
        clear e2
        go_wp2
        go_ret
        exact ⟨by rw [Q2.out]; rfl, by repeat (first | exact Ext.refl _ | assumption | refine Ext.alloc ?_ _ | refine Ext.drew ?_ | refine Ext.drewN ?_ _ | refine Ext.trans ?_ (by assumption))⟩
/-- how many terms the reference counts -/
def manyG (f : Tms → Int) : Int → Tms → Int
  | n, .nil => n
  | n, .cons _ _ g r => if n ≤ 250 then manyG f (n + 1 + f g) r else n
def manyT : Nat → Tms → Int
  | 0, t => if t.cnt = 0 then 0 else 251
  | d + 1, t => manyG (manyT d) 0 t
theorem manyG_bd {f : Tms → Int} {B : Int} (hf : ∀ g, 0 ≤ f g ∧ f g ≤ B) : ∀ (t : Tms) (n : Int), 0 ≤ n → n ≤ 251 + B → 0 ≤ manyG f n t ∧ manyG f n t ≤ 251 + B := by
  intro t
  induction t with
  | nil => intro n h0 h1; exact ⟨h0, h1⟩
  | cons N c g r _ ih =>
    intro n h0 h1
    rw [manyG]
    have := hf g
    split
    · exact ih _ (by omega) (by omega)
    · exact ⟨h0, h1⟩
theorem manyT_bd : ∀ (d : Nat) (t : Tms), 0 ≤ manyT d t ∧ manyT d t ≤ 251 * ((d : Int) + 1) := by
  intro d
  induction d with
  | zero => intro t; rw [manyT]; split <;> omega
  | succ d ih =>
    intro t
    rw [manyT]
    have := manyG_bd ih t 0 (by omega) (by omega)
    omega
theorem manyG_size {f : Tms → Int} (h0 : ∀ g, 0 ≤ f g) (hf : ∀ g, f g ≤ 250 → f g = g.size) : ∀ (t : Tms) (n : Int), 0 ≤ n → manyG f n t ≤ 250 → manyG f n t = n + t.size := by
  have ge : ∀ (t : Tms) (n : Int), n ≤ manyG f n t := by
    intro t
    induction t with
    | nil => intro n; exact Int.le_refl _
    | cons N c g r _ ih =>
      intro n
      rw [manyG]
      split
      · have := ih (n + 1 + f g)
        have := h0 g
        omega
      · exact Int.le_refl _
  intro t
  induction t with
  | nil => intro n _ _; simp [manyG, Tms.size]
  | cons N c g r _ ih =>
    intro n hn h
    rw [manyG] at h ⊢
    split at h
    · rename_i h1
      rw [if_pos h1]
      have h2 := ge r (n + 1 + f g)
      have h3 := h0 g
      have h4 := hf g (by omega)
      rw [ih _ (by omega) h, h4]
      simp only [Tms.size]
      omega
    · omega
theorem manyT_size : ∀ (d : Nat) (t : Tms), manyT d t ≤ 250 → manyT d t = t.size := by
  intro d
  induction d with
  | zero =>
    intro t h
    rw [manyT] at h ⊢
    split at h
    · rename_i h1
      rw [cnt_nil h1]; rfl
    · omega
  | succ d ih =>
    intro t h
    rw [manyT] at h ⊢
    have := manyG_size (fun g => (manyT_bd d g).1) ih t 0 (by omega) h
    omega
/-- whether a list is great -/
def greatT (t : Tms) : Bool := decide (250 < manyT 12 t)
theorem great_size {t : Tms} (h : greatT t = false) : t.size ≤ 250 := by
  have h1 : manyT 12 t ≤ 250 := by simp [greatT] at h; omega
  have := manyT_size 12 t h1
  omega
set_option maxHeartbeats 1000000 in
theorem many_any : ∀ (d : Nat), d ≤ 12 → ∀ (t : Tms) (x : Int), x = d → ∀ (A : Option Addr) (n cap : Nat) (w : World), Tv w A n t →
    Calls Tryz.prog 27 #[.slice A n cap, .int .i64 x] w fun e w' => e = .returned (.int .i64 (manyT d t)) ∧ Ext w w' := by
  intro d
  induction d with
  | zero =>
    intro hd t x hx A n cap w hv
    have HV := Lib.hid hv
    obtain rfl : x = 0 := by omega
    by_cases hn : n = 0
    · subst hn
      have HE := Lib.hid (show manyT 0 t = 0 by rw [manyT, if_pos HV.out.1])
      clear hx hv
      go_enter Tryz.func27, Tryz.ntmps27
      go_wp2_with fail
      refine wp_loop_rounds 1 ?_
      rw [rounds_succ]
      go_wp2_with fail
      go_ret
      exact ⟨by rw [HE.out]; rfl, by repeat (first | exact Ext.refl _ | assumption | refine Ext.alloc ?_ _ | refine Ext.drew ?_ | refine Ext.drewN ?_ _ | refine Ext.trans ?_ (by assumption))⟩
    · have HE := Lib.hid (show manyT 0 t = 251 by rw [manyT, if_neg (by have := HV.out.1; omega)])
      have hn1 : (0 : Int) < (n : Int) := by omega
      have hb : decide ((0 : Int) < (n : Int)) = true := by simp; omega
      clear hx hv
      go_enter Tryz.func27, Tryz.ntmps27
      go_wp2_with fail
      go_ret
      exact ⟨by rw [HE.out]; rfl, by repeat (first | exact Ext.refl _ | assumption | refine Ext.alloc ?_ _ | refine Ext.drew ?_ | refine Ext.drewN ?_ _ | refine Ext.trans ?_ (by assumption))⟩
  | succ d ih =>
    intro hd t x hx A n cap w hv
    have HI := Lib.hid (ih (by omega))
    have HV := Lib.hid hv
    have hnm := hv.2.1
    unfold maxLen at hnm
    have hn2 : (n : Int) ≤ 9223372036854775807 := by omega
    have hx0 : (x == 0) = false := beq_eq_false_iff_ne.2 (by omega)
    have hx1 : 1 ≤ x := by omega
    have hx2 : x ≤ 12 := by omega
    have HX := Lib.hid hx
    clear ih hv hx hnm
    go_enter Tryz.func27, Tryz.ntmps27
    go_wp2_with fail
    go_loopw [5, 6] (fun u i wr => ∃ (k : Nat) (U : Int) (rest : Tms), i = .int .i64 k ∧ u = .int .i64 U ∧ rest.cnt + k = n ∧ (0 ≤ U ∧ U ≤ 4000) ∧
      Hid (manyG (manyT d) U rest = manyT (d + 1) t ∧ Ext w wr ∧ (0 < rest.cnt → ∃ b off, A = some ⟨b, off, none⟩ ∧ b < wr.heap.size ∧ TAt wr rest b (off + k * 6)))) (fun _ i _ => n - (intOf i).toNat)
    case atStart =>
      refine ⟨0, 0, t, rfl, rfl, by have := HV.out.1; omega, by omega, Lib.hid ⟨rfl, Ext.refl _, fun h => ?_⟩⟩
      obtain ⟨h1, h2, h3⟩ := HV.out
      obtain ⟨b, off, e, hb, hc⟩ := h3 (by omega)
      exact ⟨b, off, e, hb, by simpa using hc⟩
    case round =>
      obtain ⟨k, U, rest, rfl, rfl, hcnt, ⟨hU0, hU1⟩, HH⟩ := hrel
      by_cases hlt : 0 < rest.cnt
      · obtain ⟨N, c, g, r, rfl⟩ := cnt_cons hlt
        simp only [Tms.cnt] at hcnt
        have hkn : k < n := by omega
        by_cases hU : U ≤ 250
        · obtain ⟨b, off, rfl, hb1, hc⟩ := HH.out.2.2 hlt
          obtain ⟨A', n', cap', c0, c1, c2, c3, c4, c5, hkk, hg, hr⟩ := hc.head
          have hxr := HH.out.2.1
          have hz := World.block_lt_of_cell? wr _ c0
          have hcall := fun (x' : Int) (hx' : x' = d) (w' : World) (h : Ext wr w') => HI.out g x' hx' A' n' cap' w' (hg.ext h)
          have HC := Lib.hid hcall
          clear hcall hc
          obtain ⟨hm0, hm1⟩ := manyT_bd d g
          have hG := Lib.hid (show manyG (manyT d) U (.cons N c g r) = manyG (manyT d) (U + 1 + manyT d g) r by rw [manyG, if_pos hU])
          generalize hmm : manyT d g = m at *
          have HMM := Lib.hid hmm
          clear hmm
          go_wp2_with (go_at_call 27; ((with_reducible refine (HC.out _ (by have := HX.out; omega) _ (by repeat (first | exact Ext.refl _ | assumption | refine Ext.alloc ?_ _ | refine Ext.drew ?_ | refine Ext.drewN ?_ _ | refine Ext.trans ?_ (by assumption)))).mono ?_); rintro e w1 ⟨rfl, hq1⟩))
          go_roundw
          case rel =>
            have hxx : Ext wr w1 := by repeat (first | exact Ext.refl _ | assumption | refine Ext.alloc ?_ _ | refine Ext.drew ?_ | refine Ext.drewN ?_ _ | refine Ext.trans ?_ (by assumption))
            obtain ⟨e2, e3, -⟩ := HH.out
            refine ⟨k + 1, U + 1 + m, r, by go_num, by go_num, by omega, by omega, Lib.hid ⟨by rw [← e2, hG.out], e3.trans hxx, fun h => ?_⟩⟩
            refine ⟨b, off, rfl, Nat.lt_of_lt_of_le hb1 (Below.size hxx), ?_⟩
            rw [show off + (k + 1) * 6 = off + k * 6 + 6 by omega]
            exact hr.ext hxx hb1
          case measure => simp [intOf]; omega
        · have hU' : decide (U ≤ 250) = false := by simp; omega
          obtain ⟨e2, e3, -⟩ := HH.out
          have q2 : manyT (d + 1) t = U := by rw [← e2, manyG, if_neg hU]
          have Q2 := Lib.hid q2
          clear q2
          go_wp2_with fail
          go_ret
          exact ⟨by rw [Q2.out]; rfl, by repeat (first | exact Ext.refl _ | assumption | refine Ext.alloc ?_ _ | refine Ext.drew ?_ | refine Ext.drewN ?_ _ | refine Ext.trans ?_ (by assumption))⟩
      · have hn0 : rest.cnt = 0 := by omega
        obtain rfl := cnt_nil hn0
        simp only [Tms.cnt] at hcnt
        obtain ⟨e2, e3, -⟩ := HH.out
        obtain rfl : k = n := by omega
        have Q2 := Lib.hid (show manyT (d + 1) t = U from e2.symm)
        clear e2
        go_wp2_with fail
        go_ret
        exact ⟨by rw [Q2.out]; rfl, by repeat (first | exact Ext.refl _ | assumption | refine Ext.alloc ?_ _ | refine Ext.drew ?_ | refine Ext.drewN ?_ _ | refine Ext.trans ?_ (by assumption))⟩
set_option maxHeartbeats 1000000 in
theorem great_any (t : Tms) (A : Option Addr) (n cap : Nat) (w : World) (hv : Tv w A n t) :
    Calls Tryz.prog 9 #[.slice A n cap] w fun e w' => e = .returned (.bool (greatT t)) ∧ Ext w w' := by
  have HV := Lib.hid hv
  obtain ⟨hm0, hm1⟩ := manyT_bd 12 t
  have HE := Lib.hid (show greatT t = decide (250 < manyT 12 t) from rfl)
  clear hv
  go_enter Tryz.func9, Tryz.ntmps9
  go_wp2_with (go_at_call 27; ((with_reducible refine (many_any 12 (by omega) t 12 (by omega) A n cap _ HV.out).mono ?_); rintro e w1 ⟨rfl, hq1⟩))
  go_ret
  exact ⟨by rw [HE.out]; rfl, by repeat (first | exact Ext.refl _ | assumption | refine Ext.alloc ?_ _ | refine Ext.drew ?_ | refine Ext.drewN ?_ _ | refine Ext.trans ?_ (by assumption))⟩
end Go.Proofs.YtfbfkoeaihknoaaGreatDoor
/- Lists of terms that a call puts together; Twin and Same of terms. -/
namespace Go.Proofs.YtfbfkoeaihknoaaGreatDoor
set_option maxRecDepth 100000
open Go.RowKit Go.ChangeShapes Go.WideShapes Go.Joins
/-- as TAt; all blocks that are read meet a condition -/
def TAtK (w : World) (K : Nat → Prop) : Tms → Nat → Nat → Prop
  | .nil, _, _ => True
  | .cons N c g r, b, off => ∃ (A : Option Addr) (n cap : Nat), w.cell? ⟨b, off, none⟩ = some (.int .i64 N) ∧ w.cell? ⟨b, off + 1, none⟩ = some (.int .u8 c.k) ∧ w.cell? ⟨b, off + 2, none⟩ = some (.bool c.p) ∧
      w.cell? ⟨b, off + 3, none⟩ = some (.int .i64 c.a) ∧ w.cell? ⟨b, off + 4, none⟩ = some (.int .i64 c.b) ∧ w.cell? ⟨b, off + 5, none⟩ = some (.slice A n cap) ∧ (0 ≤ c.k ∧ c.k ≤ 255) ∧
      g.cnt = n ∧ n ≤ maxLen ∧ (0 < n → ∃ b' off', A = some ⟨b', off', none⟩ ∧ b' < w.heap.size ∧ K b' ∧ TAtK w K g b' off') ∧ TAtK w K r b (off + 6)
def TvK (w : World) (K : Nat → Prop) (A : Option Addr) (n : Nat) (t : Tms) : Prop := t.cnt = n ∧ n ≤ maxLen ∧ (0 < n → ∃ b off, A = some ⟨b, off, none⟩ ∧ b < w.heap.size ∧ K b ∧ TAtK w K t b off)
theorem TAtK.keep {w w' : World} {K K' : Nat → Prop} (hz : w.heap.size ≤ w'.heap.size) (hc : ∀ b, b < w.heap.size → K b → K' b ∧ ∀ o, w'.cell? ⟨b, o, none⟩ = w.cell? ⟨b, o, none⟩) :
    ∀ {t : Tms} {b off : Nat}, b < w.heap.size → K b → TAtK w K t b off → TAtK w' K' t b off := by
  intro t
  induction t with
  | nil => intro b off _ _ _; trivial
  | cons N c g r ih1 ih2 =>
    intro b off hlt hk0 ⟨A, n, cap, h0, h1, h2, h3, h4, h5, hk, hn, hm, hg, hr⟩
    have hb := (hc b hlt hk0).2
    refine ⟨A, n, cap, (hb _).trans h0, (hb _).trans h1, (hb _).trans h2, (hb _).trans h3, (hb _).trans h4, (hb _).trans h5, hk, hn, hm, fun h => ?_, ih2 hlt hk0 hr⟩
    obtain ⟨b', off', e, hlt', hk', hg'⟩ := hg h
    exact ⟨b', off', e, Nat.lt_of_lt_of_le hlt' hz, (hc b' hlt' hk').1, ih1 hlt' hk' hg'⟩
theorem TvK.keep {w w' : World} {K K' : Nat → Prop} {A : Option Addr} {n : Nat} {t : Tms} (h : TvK w K A n t) (hz : w.heap.size ≤ w'.heap.size) (hc : ∀ b, b < w.heap.size → K b → K' b ∧ ∀ o, w'.cell? ⟨b, o, none⟩ = w.cell? ⟨b, o, none⟩) : TvK w' K' A n t :=
  ⟨h.1, h.2.1, fun hn => by
    obtain ⟨b, off, e, hlt, hk, ht⟩ := h.2.2 hn
    exact ⟨b, off, e, Nat.lt_of_lt_of_le hlt hz, (hc b hlt hk).1, TAtK.keep hz hc hlt hk ht⟩⟩
theorem TvK.ext {w w' : World} {K : Nat → Prop} {A : Option Addr} {n : Nat} {t : Tms} (h : TvK w K A n t) (hb : Ext w w') : TvK w' K A n t :=
  h.keep (Below.size hb) fun b hlt hk => ⟨hk, fun o => Below.cell (p := ⟨b, o, none⟩) hb hlt⟩
theorem TvK.mono {w : World} {K K' : Nat → Prop} {A : Option Addr} {n : Nat} {t : Tms} (h : TvK w K A n t) (hk : ∀ b, b < w.heap.size → K b → K' b) : TvK w K' A n t :=
  h.keep (Nat.le_refl _) fun b hlt hb => ⟨hk b hlt hb, fun _ => rfl⟩
theorem TvK.but {w w' : World} {K K' : Nat → Prop} {E : Option Nat} {A : Option Addr} {n : Nat} {t : Tms} (h : TvK w K A n t) (hb : But E w w') (hk : ∀ b, b < w.heap.size → K b → K' b ∧ some b ≠ E) : TvK w' K' A n t :=
  h.keep hb.size fun b hlt hkb => ⟨(hk b hlt hkb).1, fun o => hb.cell (p := ⟨b, o, none⟩) hlt (hk b hlt hkb).2⟩
theorem TAtK.tat {w : World} {K : Nat → Prop} : ∀ {t : Tms} {b off : Nat}, TAtK w K t b off → TAt w t b off := by
  intro t
  induction t with
  | nil => intro b off _; trivial
  | cons N c g r ih1 ih2 =>
    intro b off ⟨A, n, cap, h0, h1, h2, h3, h4, h5, hk, hn, hm, hg, hr⟩
    refine ⟨A, n, cap, h0, h1, h2, h3, h4, h5, hk, hn, hm, fun h => ?_, ih2 hr⟩
    obtain ⟨b', off', e, hlt', _, hg'⟩ := hg h
    exact ⟨b', off', e, hlt', ih1 hg'⟩
theorem TvK.tv {w : World} {K : Nat → Prop} {A : Option Addr} {n : Nat} {t : Tms} (h : TvK w K A n t) : Tv w A n t :=
  ⟨h.1, h.2.1, fun hn => by
    obtain ⟨b, off, e, hlt, _, ht⟩ := h.2.2 hn
    exact ⟨b, off, e, hlt, ht.tat⟩⟩
theorem TvK.none_ (w : World) (K : Nat → Prop) (A : Option Addr) : TvK w K A 0 .nil := ⟨rfl, by unfold maxLen; omega, fun h => absurd h (by omega)⟩
/-- the cells of a list of terms, one behind the other; the groups lie elsewhere -/
def RwK (w : World) (K : Nat → Prop) : Tms → List Value → Prop
  | .nil, L => L = []
  | .cons N c g r, L => ∃ (A : Option Addr) (n cap : Nat) (L' : List Value), L = [.int .i64 N, .int .u8 c.k, .bool c.p, .int .i64 c.a, .int .i64 c.b, .slice A n cap] ++ L' ∧ (0 ≤ c.k ∧ c.k ≤ 255) ∧ TvK w K A n g ∧ RwK w K r L'
theorem RwK.keep {w w' : World} {K K' : Nat → Prop} (hz : w.heap.size ≤ w'.heap.size) (hc : ∀ b, b < w.heap.size → K b → K' b ∧ ∀ o, w'.cell? ⟨b, o, none⟩ = w.cell? ⟨b, o, none⟩) :
    ∀ {t : Tms} {L : List Value}, RwK w K t L → RwK w' K' t L := by
  intro t
  induction t with
  | nil => intro L h; exact h
  | cons N c g r _ ih =>
    intro L ⟨A, n, cap, L', e, hk, hg, hr⟩
    exact ⟨A, n, cap, L', e, hk, hg.keep hz hc, ih hr⟩
theorem RwK.ext {w w' : World} {K : Nat → Prop} {t : Tms} {L : List Value} (h : RwK w K t L) (hb : Ext w w') : RwK w' K t L :=
  h.keep (Below.size hb) fun b hlt hk => ⟨hk, fun o => Below.cell (p := ⟨b, o, none⟩) hb hlt⟩
theorem RwK.but {w w' : World} {K K' : Nat → Prop} {E : Option Nat} {t : Tms} {L : List Value} (h : RwK w K t L) (hb : But E w w') (hk : ∀ b, b < w.heap.size → K b → K' b ∧ some b ≠ E) : RwK w' K' t L :=
  h.keep hb.size fun b hlt hkb => ⟨(hk b hlt hkb).1, fun o => hb.cell (p := ⟨b, o, none⟩) hlt (hk b hlt hkb).2⟩
theorem RwK.app {w : World} {K : Nat → Prop} : ∀ {a b : Tms} {L M : List Value}, RwK w K a L → RwK w K b M → RwK w K (a.app b) (L ++ M) := by
  intro a
  induction a with
  | nil => intro b L M h h2; rw [show L = [] from h]; exact h2
  | cons N c g r _ ih =>
    intro b L M ⟨A, n, cap, L', e, hk, hg, hr⟩ h2
    exact ⟨A, n, cap, L' ++ M, by rw [e, List.append_assoc], hk, hg, ih hr h2⟩
theorem RwK.len {w : World} {K : Nat → Prop} : ∀ {t : Tms} {L : List Value}, RwK w K t L → L.length = t.cnt * 6 := by
  intro t
  induction t with
  | nil => intro L h; rw [show L = [] from h]; rfl
  | cons N c g r _ ih =>
    intro L ⟨A, n, cap, L', e, hk, hg, hr⟩
    have := ih hr
    rw [e]
    simp only [List.length_append, List.length_cons, List.length_nil, Tms.cnt, this]
    omega
theorem RwK.one {w : World} {K : Nat → Prop} : ∀ {t : Tms} {L : List Value}, RwK w K t L → ∀ u ∈ L, u.oneCell' = true := by
  intro t
  induction t with
  | nil => intro L h u hu; rw [show L = [] from h] at hu; cases hu
  | cons N c g r _ ih =>
    intro L ⟨A, n, cap, L', e, hk, hg, hr⟩ u hu
    rw [e, List.mem_append] at hu
    rcases hu with hu | hu
    · simp only [List.mem_cons, List.not_mem_nil, or_false] at hu
      rcases hu with rfl | rfl | rfl | rfl | rfl | rfl <;> rfl
    · exact ih hr u hu
/-- cells that lie in a block make a reading -/
theorem RwK.at_ {w : World} {K : Nat → Prop} : ∀ {t : Tms} {L : List Value} {b off : Nat}, RwK w K t L → (∀ j u, L[j]? = some u → w.cell? ⟨b, off + j, none⟩ = some u) → TAtK w K t b off := by
  intro t
  induction t with
  | nil => intro L b off _ _; trivial
  | cons N c g r _ ih =>
    intro L b off ⟨A, n, cap, L', e, hk, hg, hr⟩ h
    subst e
    refine ⟨A, n, cap, h 0 _ rfl, h 1 _ rfl, h 2 _ rfl, h 3 _ rfl, h 4 _ rfl, h 5 _ rfl, hk, hg.1, hg.2.1, hg.2.2, ih hr (fun j u hu => ?_)⟩
    rw [show off + 6 + j = off + (6 + j) by omega]
    refine h (6 + j) u ?_
    rw [List.getElem?_append_right (by simp)]
    simpa using hu
/-- and the other way about -/
theorem TAtK.row {w : World} {K : Nat → Prop} : ∀ {t : Tms} {b off : Nat}, TAtK w K t b off → ∃ L, RwK w K t L ∧ ∀ j u, L[j]? = some u → w.cell? ⟨b, off + j, none⟩ = some u := by
  intro t
  induction t with
  | nil => intro b off _; exact ⟨[], rfl, fun j u h => by simp at h⟩
  | cons N c g r _ ih =>
    intro b off ⟨A, n, cap, h0, h1, h2, h3, h4, h5, hk, hn, hm, hg, hr⟩
    obtain ⟨L', hL, hc⟩ := ih hr
    refine ⟨_, ⟨A, n, cap, L', rfl, hk, ⟨hn, hm, hg⟩, hL⟩, fun j u hu => ?_⟩
    rcases Nat.lt_or_ge j 6 with hj | hj
    · rw [List.getElem?_append_left (by simpa using hj)] at hu
      match j, hj, hu with
      | 0, _, hu => simp at hu; subst hu; exact h0
      | 1, _, hu => simp at hu; subst hu; exact h1
      | 2, _, hu => simp at hu; subst hu; exact h2
      | 3, _, hu => simp at hu; subst hu; exact h3
      | 4, _, hu => simp at hu; subst hu; exact h4
      | 5, _, hu => simp at hu; subst hu; exact h5
    · rw [List.getElem?_append_right (by simpa using hj)] at hu
      have := hc (j - 6) u (by simpa using hu)
      rwa [show off + 6 + (j - 6) = off + j by omega] at this
/-- the call has put together these terms; all that is read of them is the call's own -/
def OwnT (w : World) (B : Nat) (e : TypeId) (v : Value) (k : Nat) (t : Tms) : Prop := t.cnt = k ∧ ∃ L, w.ownsRow B e 6 v k L ∧ RwK w (fun b => B ≤ b ∧ some b ≠ v.ownBlock) t L
theorem OwnT.nil (w : World) (B : Nat) (e : TypeId) : OwnT w B e (.slice none 0 0) 0 .nil := ⟨rfl, [], World.ownsRow_nil _ _ _ _, rfl⟩
theorem OwnT.ext {w w' : World} {B : Nat} {e : TypeId} {v : Value} {k : Nat} {t : Tms} (h : OwnT w B e v k t) (hb : Ext w w') : OwnT w' B e v k t := by
  obtain ⟨h1, L, h2, h3⟩ := h
  exact ⟨h1, L, World.ownsRow.kept h2 (But.of_ext hb none) (by cases v.ownBlock <;> simp), h3.ext hb⟩
/-- what is put together is a slice that reads as the terms -/
theorem own_tms {w : World} {B k : Nat} {e : TypeId} {v : Value} {t : Tms} (h : OwnT w B e v k t) (hk : k ≤ 1000000) : ∃ A c, v = .slice A k c ∧ TvK w (fun b => B ≤ b) A k t := by
  obtain ⟨h1, L, h2, h3⟩ := h
  have hm : k ≤ maxLen := by unfold maxLen; omega
  rcases h2.2 with ⟨e1, e2⟩ | ⟨g, cap, cur, e1, _⟩
  · subst e2
    subst e1
    exact ⟨none, 0, rfl, h1, by unfold maxLen; omega, fun h => absurd h (by omega)⟩
  · subst e1
    refine ⟨_, _, rfl, h1, hm, fun hn => ?_⟩
    obtain ⟨g', cap', hv, _, hlt⟩ := World.ownsRow.form h2 hn
    simp only [Value.slice.injEq, true_and] at hv
    obtain ⟨hA, hc⟩ := hv
    cases hA
    refine ⟨g, 0, rfl, hlt, (own_blk h2 g (by simp [Value.ownBlock])).1, ?_⟩
    refine RwK.at_ (L := L) (h3.keep (Nat.le_refl _) fun b _ hb => ⟨hb.1, fun _ => rfl⟩) fun j u hu => ?_
    have hj : j < k * 6 := by rw [← h1, ← h3.len]; exact (List.getElem?_eq_some_iff.1 hu).1
    rw [Nat.zero_add, World.ownsRow.cellAt h2 _ hj]
    exact hu
section
variable {P : Program} {ops : Array Oper} {rest : List Oper} {o : Oper} {a : Act} {K : Act → World → Prop} {Q : Exit → Act → World → Prop} {E : Prop} {w wx : World}
theorem app_cnt : ∀ (t r : Tms), (t.app r).cnt = t.cnt + r.cnt := by
  intro t r
  induction t with
  | nil => simp [Tms.app, Tms.cnt]
  | cons N c g r' _ ih => simp only [Tms.app, Tms.cnt, ih]; omega
/-- terms appended to what the call has put together; what is read of the new ones is the call's own, and not the row itself -/
theorem wp_append_tms (T e : TypeId) (z : Value) (bytes : Nat) {s x : Operand} {v : Value} {k m c : Nat} {A : Option Addr} {t r : Tms} {L : List Value}
    (ho : o.op = .call { callee := .builtin .append, args := #[s, x], argTypes := #[T, T] })
    (ht : P.underlying T = some (.slice e)) (hinfo : (P.info? e).map (fun i => (i.zero, i.size, i.bytes)) = some (some z, 6, bytes)) (hzs : z.cells.size = 6) (hby : bytes ≤ 1000)
    (hs : a.eval s = v) (hx : a.eval x = .slice A m c) (hown : OwnT wx w.heap.size e v k t) (hext : Ext w wx) (hr : r.cnt = m)
    (hL : RwK wx (fun b => w.heap.size ≤ b ∧ some b ≠ v.ownBlock) r L) (hA : 0 < m → ∃ ad, A = some ad ∧ ∀ j u, L[j]? = some u → wx.cell? (ad.add j) = some u) (hk : k + m ≤ 1000000)
    (h : ∀ v' w1, OwnT w1 w.heap.size e v' (k + m) (t.app r) → Hid (Ext w w1) → K (a.put o.dst v') w1) : o.wp P a wx K Q := by
  obtain ⟨h1, L0, h2, h3⟩ := hown
  refine wp_append_cells T e z 6 bytes ho ht hinfo hzs (by omega) hby hs hx h2 hext (by rw [hL.len, hr]) hA hL.one hk ?_
  intro v' w1 g1 g2 g3 g4
  refine h v' w1 ⟨?_, L0 ++ L, g1, ?_⟩ g2
  · rw [← hr, ← h1]
    exact app_cnt t r
  · have hb : ∀ b, b < wx.heap.size → (w.heap.size ≤ b ∧ some b ≠ v.ownBlock) → (w.heap.size ≤ b ∧ some b ≠ v'.ownBlock) ∧ some b ≠ v.ownBlock := fun b hlt hb => by
      refine ⟨⟨hb.1, ?_⟩, hb.2⟩
      rcases g4 with g4 | g4
      · rw [g4]; exact hb.2
      · rw [g4]; intro e; cases e; omega
    exact (h3.but g3 hb).app (hL.but g3 hb)
end
theorem info_tm0 : (Tryz.prog.info? 48).map (fun i => (i.zero.map (fun z => z.cells.size), i.size, i.bytes)) = some (some 6, 6, 56) := by kernel_rfl
theorem info_tm : ∃ z : Value, (Tryz.prog.info? 48).map (fun i => (i.zero, i.size, i.bytes)) = some (some z, 6, 56) ∧ z.cells.size = 6 := by
  have h := info_tm0
  rw [Option.map_eq_some_iff] at h
  obtain ⟨i, hi, he⟩ := h
  simp only [Prod.mk.injEq] at he
  obtain ⟨h1, h2, h3⟩ := he
  rw [Option.map_eq_some_iff] at h1
  obtain ⟨z, hz, hs⟩ := h1
  exact ⟨z, by rw [hi, Option.map_some, hz, h2, h3], hs⟩
/-- a term in a block of its own, appended -/
theorem wp_append_tm {P : Program} {o : Oper} {a : Act} {K : Act → World → Prop} {Q : Exit → Act → World → Prop} {w wx : World} (T e : TypeId) (z : Value) (bytes : Nat) {s x : Operand} {v : Value} {k : Nat} (g0 : Nat) {t g : Tms} (N : Int) (c : St) {A : Option Addr} {n cap : Nat}
    (ho : o.op = .call { callee := .builtin .append, args := #[s, x], argTypes := #[T, T] })
    (ht : P.underlying T = some (.slice e)) (hinfo : (P.info? e).map (fun i => (i.zero, i.size, i.bytes)) = some (some z, 6, bytes)) (hzs : z.cells.size = 6) (hby : bytes ≤ 1000)
    (hs : a.eval s = v) (hx : a.eval x = .slice (some ⟨g0, 0, none⟩) 1 1) (hown : OwnT wx w.heap.size e v k t) (hext : Ext w wx) (hck : 0 ≤ c.k ∧ c.k ≤ 255)
    (hg : TvK wx (fun b => w.heap.size ≤ b ∧ some b ≠ v.ownBlock) A n g)
    (hA : ∀ j u, ([.int .i64 N, .int .u8 c.k, .bool c.p, .int .i64 c.a, .int .i64 c.b, .slice A n cap] : List Value)[j]? = some u → wx.cell? ⟨g0, j, none⟩ = some u) (hk : k + 1 ≤ 1000000)
    (h : ∀ v' w1, OwnT w1 w.heap.size e v' (k + 1) (t.app (.cons N c g .nil)) → Hid (Ext w w1) → K (a.put o.dst v') w1) : o.wp P a wx K Q :=
  wp_append_tms T e z bytes (r := .cons N c g .nil) (L := [.int .i64 N, .int .u8 c.k, .bool c.p, .int .i64 c.a, .int .i64 c.b, .slice A n cap]) ho ht hinfo hzs hby hs hx hown hext rfl
    ⟨A, n, cap, [], rfl, hck, hg, rfl⟩ (fun _ => ⟨_, rfl, fun j u hu => by rw [add_plain, Nat.zero_add]; exact hA j u hu⟩) hk h
theorem step_append_tm {P : Program} {ops : Array Oper} {E : Prop} {o : Oper} {a : Act} {K : Act → World → Prop} {Q : Exit → Act → World → Prop} {w wx : World} (T e : TypeId) (z : Value) (bytes : Nat) {s x : Operand} {v : Value} {k : Nat} (g0 : Nat) {t g : Tms} (N : Int) (c : St) {A : Option Addr} {n cap : Nat}
    (hgd : o.guard = none) (ho : o.op = .call { callee := .builtin .append, args := #[s, x], argTypes := #[T, T] })
    (ht : P.underlying T = some (.slice e)) (hinfo : (P.info? e).map (fun i => (i.zero, i.size, i.bytes)) = some (some z, 6, bytes)) (hzs : z.cells.size = 6) (hby : bytes ≤ 1000)
    (hs : a.eval s = v) (hx : a.eval x = .slice (some ⟨g0, 0, none⟩) 1 1) (hown : OwnT wx w.heap.size e v k t) (hext : Ext w wx) (hck : 0 ≤ c.k ∧ c.k ≤ 255)
    (hg : TvK wx (fun b => w.heap.size ≤ b ∧ some b ≠ v.ownBlock) A n g)
    (hA : ∀ j u, ([.int .i64 N, .int .u8 c.k, .bool c.p, .int .i64 c.a, .int .i64 c.b, .slice A n cap] : List Value)[j]? = some u → wx.cell? ⟨g0, j, none⟩ = some u) (hk : k + 1 ≤ 1000000)
    (h : ∀ v' w1, OwnT w1 w.heap.size e v' (k + 1) (t.app (.cons N c g .nil)) → Hid (Ext w w1) → K (a.put o.dst v') w1) :
    if Region.wanted o (yielded ops a.tmps) = true then Oper.wp P o a wx K Q else E := by
  have hw : Region.wanted o (yielded ops a.tmps) = true := by simp [Region.wanted, hgd]
  rw [if_pos hw]
  exact wp_append_tm T e z bytes g0 N c ho ht hinfo hzs hby hs hx hown hext hck hg hA hk h
/-- a call has returned these terms, made by itself -/
def TmsR (t : Tms) (w : World) (e : Ending) (w' : World) : Prop := ∃ (A : Option Addr) (n c : Nat), e = .returned (.slice A n c) ∧ Ext w w' ∧ TvK w' (fun b => w.heap.size ≤ b) A n t
theorem app_nil : ∀ t : Tms, t.app .nil = t := by
  intro t
  induction t with
  | nil => rfl
  | cons N c g r _ ih => rw [Tms.app, ih]
theorem app_assoc : ∀ a b c : Tms, (a.app b).app c = a.app (b.app c) := by
  intro a
  induction a with
  | nil => intro b c; rfl
  | cons N x g r _ ih => intro b c; rw [Tms.app, Tms.app, Tms.app, ih]
theorem tm_new (w : World) (N k : Int) (p : Bool) (a b : Int) (v : Value) (T : TypeId) :
    ∀ j u, ([.int .i64 N, .int .u8 k, .bool p, .int .i64 a, .int .i64 b, v] : List Value)[j]? = some u → (w.alloc (.cells #[.int .i64 N, .int .u8 k, .bool p, .int .i64 a, .int .i64 b, v] T)).cell? ⟨w.heap.size, j, none⟩ = some u := by
  intro j u hj
  have h : (w.alloc (.cells #[.int .i64 N, .int .u8 k, .bool p, .int .i64 a, .int .i64 b, v] T)).heap[w.heap.size]? = some (.cells #[.int .i64 N, .int .u8 k, .bool p, .int .i64 a, .int .i64 b, v] T) := heap_alloc_new w _
  rw [cell_of_row _ w.heap.size _ _ T (0, 0) h]
  simpa using hj
attribute [local go_sem] run_equalIn_st
set_option maxHeartbeats 4000000 in
theorem same_any : ∀ (M : Nat), M ≤ 5000 → ∀ (t : Tms), t.size ≤ M → ∀ (A B : Option Addr) (n m cap dap : Nat) (w : World), Tv w A n t → Tv w B m t →
    Calls Tryz.prog 14 #[.slice A n cap, .slice B m dap] w fun e w' => e = .returned (.bool true) ∧ Ext w w' := by
  intro M
  induction M using Nat.strongRecOn with
  | ind M ih =>
    intro hM t ht A B n m cap dap w hv hu
    obtain rfl : n = m := hv.1.symm.trans hu.1
    have HI := Lib.hid ih
    have HV := Lib.hid hv
    have HU := Lib.hid hu
    have hnm : n ≤ 5000 := by have h1 := hv.1; have h2 := cnt_size t; omega
    clear ih hv hu
    go_enter Tryz.func14, Tryz.ntmps14
    go_wp2_with fail
    go_loopw [5] (fun i wr => ∃ (k : Nat) (rest : Tms), i = .int .i64 k ∧ rest.cnt + k = n ∧ rest.size ≤ M ∧
      Hid (Ext w wr ∧ (0 < rest.cnt → ∃ b off, A = some ⟨b, off, none⟩ ∧ b < wr.heap.size ∧ TAt wr rest b (off + k * 6)) ∧ (0 < rest.cnt → ∃ b off, B = some ⟨b, off, none⟩ ∧ b < wr.heap.size ∧ TAt wr rest b (off + k * 6)))) (fun i _ => n - (intOf i).toNat)
    case atStart =>
      refine ⟨0, t, rfl, by have := HV.out.1; omega, ht, Lib.hid ⟨Ext.refl _, fun h => ?_, fun h => ?_⟩⟩
      · obtain ⟨h1, h2, h3⟩ := HV.out
        obtain ⟨b, off, e, hb, hc⟩ := h3 (by omega)
        exact ⟨b, off, e, hb, by simpa using hc⟩
      · obtain ⟨h1, h2, h3⟩ := HU.out
        obtain ⟨b, off, e, hb, hc⟩ := h3 (by omega)
        exact ⟨b, off, e, hb, by simpa using hc⟩
    case round =>
      obtain ⟨k, rest, rfl, hcnt, hrs, HH⟩ := hrel
      by_cases hlt : 0 < rest.cnt
      · obtain ⟨N, c, g, r, rfl⟩ := cnt_cons hlt
        obtain ⟨b, off, rfl, hb1, hc⟩ := HH.out.2.1 hlt
        obtain ⟨b', off', rfl, hb2, hd⟩ := HH.out.2.2 hlt
        obtain ⟨A', n', cap', c0, c1, c2, c3, c4, c5, hkk, hg, hr⟩ := hc.head
        obtain ⟨B', m', dap', d0, d1, d2, d3, d4, d5, hkk', hg', hr'⟩ := hd.head
        have hxr := HH.out.1
        simp only [Tms.cnt, Tms.size] at hcnt hrs
        have hkn : k < n := by omega
        have hcall := fun (w' : World) (h : Ext wr w') => HI.out (M - 1) (by omega) (by omega) g (by omega) A' B' n' m' cap' dap' w' (hg.ext h) (hg'.ext h)
        have HC := Lib.hid hcall
        have q0 : (0 : Int) ≤ (k : Int) := by omega
        have q1 : (k : Int) < (n : Int) := by omega
        clear hcall hc hd hkk hkk'
        obtain ⟨ck, cp, ca, cb⟩ := c
        simp only at c1 c2 c3 c4 d1 d2 d3 d4
        obtain ⟨wq, rfl⟩ : ∃ wq : World, wq = wr := ⟨_, rfl⟩
        go_wp2_with fail
        go_region_held3 (fun w' => w'.cell? ⟨b, off + k * 6, none⟩ = some (.int .i64 N) ∧ w'.cell? ⟨b, off + k * 6 + 1, none⟩ = some (.int .u8 ck) ∧ w'.cell? ⟨b, off + k * 6 + 2, none⟩ = some (.bool cp) ∧ w'.cell? ⟨b, off + k * 6 + 3, none⟩ = some (.int .i64 ca) ∧ w'.cell? ⟨b, off + k * 6 + 4, none⟩ = some (.int .i64 cb) ∧ w'.cell? ⟨b, off + k * 6 + 5, none⟩ = some (.slice A' n' cap') ∧ w'.cell? ⟨b', off' + k * 6, none⟩ = some (.int .i64 N) ∧ w'.cell? ⟨b', off' + k * 6 + 1, none⟩ = some (.int .u8 ck) ∧ w'.cell? ⟨b', off' + k * 6 + 2, none⟩ = some (.bool cp) ∧ w'.cell? ⟨b', off' + k * 6 + 3, none⟩ = some (.int .i64 ca) ∧ w'.cell? ⟨b', off' + k * 6 + 4, none⟩ = some (.int .i64 cb) ∧ w'.cell? ⟨b', off' + k * 6 + 5, none⟩ = some (.slice B' m' dap')) (go_keep)
          (first | (go_at_call 14; ((with_reducible refine (HC.out _ (by repeat (first | exact Ext.refl _ | assumption | refine Ext.alloc ?_ _ | refine Ext.drew ?_ | refine Ext.drewN ?_ _ | refine Ext.trans ?_ (by assumption)))).mono ?_); rintro e w1 ⟨rfl, hq1⟩; have hq9 : Ext wq w1 := (by repeat (first | exact Ext.refl _ | assumption | refine Ext.alloc ?_ _ | refine Ext.drew ?_ | refine Ext.drewN ?_ _ | refine Ext.trans ?_ (by assumption))); obtain ⟨hf1, hf2, hf3⟩ := hq9.facts)))
        go_wp2
        go_roundw
        case rel =>
          refine ⟨k + 1, r, by go_num, by omega, by omega, Lib.hid ⟨HH.out.1.trans hq9, fun h => ?_, fun h => ?_⟩⟩
          · refine ⟨b, off, rfl, Nat.lt_of_lt_of_le hb1 (Below.size hq9), ?_⟩
            rw [show off + (k + 1) * 6 = off + k * 6 + 6 by omega]
            exact hr.ext hq9 hb1
          · refine ⟨b', off', rfl, Nat.lt_of_lt_of_le hb2 (Below.size hq9), ?_⟩
            rw [show off' + (k + 1) * 6 = off' + k * 6 + 6 by omega]
            exact hr'.ext hq9 hb2
        case measure => simp [intOf]; omega
      · have hn0 : rest.cnt = 0 := by omega
        obtain rfl := cnt_nil hn0
        simp only [Tms.cnt] at hcnt
        obtain ⟨e2, -⟩ := HH.out
        obtain rfl : k = n := by omega
        go_wp2
        go_ret
        exact ⟨rfl, by repeat (first | exact Ext.refl _ | assumption | refine Ext.alloc ?_ _ | refine Ext.drew ?_ | refine Ext.drewN ?_ _ | refine Ext.trans ?_ (by assumption))⟩
end Go.Proofs.YtfbfkoeaihknoaaGreatDoor
