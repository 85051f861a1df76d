/- The walks of length and long. -/
import Derived.Test.YtfbfkoeaihknoaaGreatDoorH04
namespace Go.Proofs.YtfbfkoeaihknoaaGreatDoor
set_option maxRecDepth 100000
open Go.RowKit Go.ChangeShapes Go.WideShapes Go.Joins
theorem inR_bd {x a b : Int} (h : inR x a b = true) : a ≤ x ∧ x ≤ b := by simpa [inR] using h
theorem fine_cons {N : Int} {c : St} {g r : Tms} (h : fineT (.cons N c g r) = true) : (1 ≤ N ∧ N ≤ 200) ∧ fineT g = true ∧ fineT r = true := by
  by_cases hg : g = .nil
  · subst hg
    rw [fine_one] at h
    simp only [Bool.and_eq_true] at h
    exact ⟨inR_bd h.1.1, rfl, h.2⟩
  · rw [fine_grp _ _ _ _ hg] at h
    simp only [Bool.and_eq_true] at h
    exact ⟨inR_bd h.1.1.1, h.1.2, h.2⟩
theorem len_bd : ∀ {t : Tms}, fineT t = true → ∀ {m : Int}, 0 ≤ m → m ≤ 201 → 0 ≤ lenT t m ∧ lenT t m ≤ 201 := by
  intro t
  induction t with
  | nil => intro _ m h0 h1; exact ⟨h0, h1⟩
  | cons N c g r ih1 ih2 =>
    intro h m h0 h1
    obtain ⟨hN, hg, hr⟩ := fine_cons h
    by_cases e : g = .nil
    · subst e
      rw [len_one]
      exact ih2 hr (by omega) (by omega)
    · rw [len_grp _ _ _ _ _ e]
      obtain ⟨a, b⟩ := ih1 hg (m := 0) (by omega) (by omega)
      have := Int.mul_nonneg a (show (0 : Int) ≤ N by omega)
      exact ih2 hr (by omega) (by omega)
set_option maxHeartbeats 1000000 in
theorem length_any : ∀ (M : Nat), M ≤ 5000 → ∀ (t : Tms), t.size ≤ M → fineT t = true → ∀ (A : Option Addr) (n cap : Nat) (w : World), Tv w A n t →
    Calls Tryz.prog 39 #[.slice A n cap] w fun e w' => e = .returned (.int .i64 (lenT t 0)) ∧ Ext w w' := by
  intro M
  induction M using Nat.strongRecOn with
  | ind M ih =>
    intro hM t ht hf A n cap w hv
    have HI := Lib.hid ih
    have HV := Lib.hid hv
    have hnm : n ≤ 5000 := by have h1 := hv.1; have h2 := cnt_size t; omega
    clear ih hv
    go_enter Tryz.func39, Tryz.ntmps39
    go_wp2_with fail
    go_loopw [3, 9] (fun u i wr => ∃ (k : Nat) (U : Int) (rest : Tms), i = .int .i64 k ∧ u = .int .i64 U ∧ rest.cnt + k = n ∧ rest.size ≤ M ∧ (0 ≤ U ∧ U ≤ 201) ∧
      Hid (fineT rest = true ∧ lenT rest U = lenT t 0 ∧ Ext w wr ∧ (0 < rest.cnt → ∃ b off, A = some ⟨b, off, none⟩ ∧ b < wr.heap.size ∧ TAt wr rest b (off + k * 6)))) (fun _ i _ => n - (intOf i).toNat)
    case atStart =>
      refine ⟨0, 0, t, rfl, rfl, by have := HV.out.1; omega, ht, by omega, Lib.hid ⟨hf, rfl, Ext.refl _, fun h => ?_⟩⟩
      obtain ⟨h1, h2, h3⟩ := HV.out
      obtain ⟨b, off, e, hb, hc⟩ := h3 (by omega)
      exact ⟨b, off, e, hb, by simpa using hc⟩
    case round =>
      obtain ⟨k, U, rest, rfl, rfl, hcnt, hrs, ⟨hU0, hU1⟩, HH⟩ := hrel
      by_cases hlt : 0 < rest.cnt
      · obtain ⟨N, c, g, r, rfl⟩ := cnt_cons hlt
        obtain ⟨b, off, rfl, hb1, hc⟩ := HH.out.2.2.2 hlt
        obtain ⟨A', n', cap', c0, c1, c2, c3, c4, c5, hkk, hg, hr⟩ := hc.head
        obtain ⟨⟨hN0, hN1⟩, hfg, hfr⟩ := fine_cons HH.out.1
        have hxr := HH.out.2.2.1
        simp only [Tms.cnt, Tms.size] at hcnt hrs
        have hkn : k < n := by omega
        have hz := World.block_lt_of_cell? wr _ c0
        have hcall := fun (w' : World) (h : Ext wr w') => HI.out (M - 1) (by omega) (by omega) g (by omega) hfg A' n' cap' w' (hg.ext h)
        have HC := Lib.hid hcall
        have hgn := hg.1
        have HF := Lib.hid hfr
        clear hcall hc
        by_cases hn' : 0 < n'
        · have hge : g ≠ .nil := by rintro rfl; simp [Tms.cnt] at hgn; omega
          have HL := Lib.hid (len_grp N c g r U hge)
          obtain ⟨hL0, hL1⟩ := len_bd hfg (m := 0) (by omega) (by omega)
          have HN := Lib.hid hfg
          clear hfg hfr
          generalize hLL : lenT g 0 = L at *
          have hp0 : 0 ≤ L * N := Int.mul_nonneg hL0 (by omega)
          have hp1 : L * N ≤ 201 * 200 := Int.mul_le_mul hL1 hN1 (by omega) (by omega)
          have m1 : ∀ (ts : Array TypeId) (t : TypeId) (w : World), (Builtin.min_ ts t #[.int .i64 (U + L * N), .int .i64 201]).run Tryz.prog w = .ok (.int .i64 (min (U + L * N) 201)) w := fun ts t w => run_min_t ts t _ _
          have f1 := IntWalk.i64_in (L * N) (by omega)
          have f2 := IntWalk.i64_in (U + L * N) (by omega)
          go_wp2_with (go_at_call 39; ((with_reducible refine (HC.out _ (by repeat (first | exact Ext.refl _ | assumption | refine Ext.alloc ?_ _ | refine Ext.drew ?_ | refine Ext.drewN ?_ _ | refine Ext.trans ?_ (by assumption)))).mono ?_); rintro e w1 ⟨rfl, hq1⟩; obtain ⟨hf1, hf2, hf3⟩ := hq1.facts))
          go_roundw
          case rel =>
            have hxx : Ext wr w1 := by repeat (first | exact Ext.refl _ | assumption | refine Ext.alloc ?_ _ | refine Ext.drew ?_ | refine Ext.drewN ?_ _ | refine Ext.trans ?_ (by assumption))
            obtain ⟨_, e2, e3, -⟩ := HH.out
            rw [HL.out] at e2
            refine ⟨k + 1, min (U + L * N) 201, r, by go_num, by go_num, by omega, by omega, by omega, Lib.hid ⟨HF.out, e2, e3.trans hxx, fun h => ?_⟩⟩
            refine ⟨b, off, rfl, Nat.lt_of_lt_of_le hb1 (Below.size hxx), ?_⟩
            rw [show off + (k + 1) * 6 = off + k * 6 + 6 by omega]
            exact hr.ext hxx hb1
          case measure => simp [intOf]; omega
        · obtain rfl := cnt_nil (t := g) (by omega)
          obtain rfl : n' = 0 := by omega
          have HL := Lib.hid (len_one N c r U)
          have m1 : ∀ (ts : Array TypeId) (t : TypeId) (w : World), (Builtin.min_ ts t #[.int .i64 (U + 1 * N), .int .i64 201]).run Tryz.prog w = .ok (.int .i64 (min (U + 1 * N) 201)) w := fun ts t w => run_min_t ts t _ _
          have m2 : ∀ (ts : Array TypeId) (t : TypeId) (w : World), (Builtin.min_ ts t #[.int .i64 (U + N), .int .i64 201]).run Tryz.prog w = .ok (.int .i64 (min (U + N) 201)) w := fun ts t w => run_min_t ts t _ _
          go_wp2_with fail
          go_roundw
          case rel =>
            obtain ⟨_, e2, e3, -⟩ := HH.out
            rw [HL.out] at e2
            refine ⟨k + 1, min (U + 1 * N) 201, r, by go_num, by first | go_num | simp, by omega, by omega, by omega, Lib.hid ⟨HF.out, e2, by first | exact e3 | exact e3.alloc _ , fun h => ?_⟩⟩
            refine ⟨b, off, rfl, by first | exact hb1 | exact Nat.lt_of_lt_of_le hb1 (Below.size ((Ext.refl wr).alloc _)), ?_⟩
            rw [show off + (k + 1) * 6 = off + k * 6 + 6 by omega]
            first | exact hr | exact hr.ext ((Ext.refl wr).alloc _) hb1
          case measure => simp [intOf]; omega
      · have hn0 : rest.cnt = 0 := by omega
        obtain rfl := cnt_nil hn0
        simp only [Tms.cnt] at hcnt
        obtain ⟨_, e2, e3, -⟩ := HH.out
        obtain rfl : k = n := by omega
        have q2 : lenT t 0 = U := e2.symm
        go_wp2
        go_ret
        first | exact ⟨rfl, by repeat (first | exact Ext.refl _ | assumption | refine Ext.alloc ?_ _ | refine Ext.drew ?_ | refine Ext.drewN ?_ _ | refine Ext.trans ?_ (by assumption))⟩ | (rw [q2]; exact ⟨rfl, by repeat (first | exact Ext.refl _ | assumption | refine Ext.alloc ?_ _ | refine Ext.drew ?_ | refine Ext.drewN ?_ _ | refine Ext.trans ?_ (by assumption))⟩)
set_option maxHeartbeats 1000000 in
theorem long_any : ∀ (M : Nat), M ≤ 5000 → ∀ (t : Tms), t.size ≤ M → fineT t = true → ∀ (A : Option Addr) (n cap : Nat) (w : World), Tv w A n t →
    Calls Tryz.prog 50 #[.slice A n cap] w fun e w' => e = .returned (.int .i64 (lenT t 0)) ∧ Ext w w' := by
  intro M
  induction M using Nat.strongRecOn with
  | ind M ih =>
    intro hM t ht hf A n cap w hv
    have HI := Lib.hid ih
    have HV := Lib.hid hv
    have hnm : n ≤ 5000 := by have h1 := hv.1; have h2 := cnt_size t; omega
    clear ih hv
    go_enter Tryz.func50, Tryz.ntmps50
    go_wp2_with fail
    go_loopw [3, 4] (fun u i wr => ∃ (k : Nat) (U : Int) (rest : Tms), i = .int .i64 k ∧ u = .int .i64 U ∧ rest.cnt + k = n ∧ rest.size ≤ M ∧ (0 ≤ U ∧ U ≤ 201) ∧
      Hid (fineT rest = true ∧ lenT rest U = lenT t 0 ∧ Ext w wr ∧ (0 < rest.cnt → ∃ b off, A = some ⟨b, off, none⟩ ∧ b < wr.heap.size ∧ TAt wr rest b (off + k * 6)))) (fun _ i _ => n - (intOf i).toNat)
    case atStart =>
      refine ⟨0, 0, t, rfl, rfl, by have := HV.out.1; omega, ht, by omega, Lib.hid ⟨hf, rfl, Ext.refl _, fun h => ?_⟩⟩
      obtain ⟨h1, h2, h3⟩ := HV.out
      obtain ⟨b, off, e, hb, hc⟩ := h3 (by omega)
      exact ⟨b, off, e, hb, by simpa using hc⟩
    case round =>
      obtain ⟨k, U, rest, rfl, rfl, hcnt, hrs, ⟨hU0, hU1⟩, HH⟩ := hrel
      by_cases hlt : 0 < rest.cnt
      · obtain ⟨N, c, g, r, rfl⟩ := cnt_cons hlt
        obtain ⟨b, off, rfl, hb1, hc⟩ := HH.out.2.2.2 hlt
        obtain ⟨A', n', cap', c0, c1, c2, c3, c4, c5, hkk, hg, hr⟩ := hc.head
        obtain ⟨⟨hN0, hN1⟩, hfg, hfr⟩ := fine_cons HH.out.1
        have hxr := HH.out.2.2.1
        simp only [Tms.cnt, Tms.size] at hcnt hrs
        have hkn : k < n := by omega
        have hz := World.block_lt_of_cell? wr _ c0
        have hcall := fun (w' : World) (h : Ext wr w') => HI.out (M - 1) (by omega) (by omega) g (by omega) hfg A' n' cap' w' (hg.ext h)
        have HC := Lib.hid hcall
        have hgn := hg.1
        have HF := Lib.hid hfr
        clear hcall hc
        by_cases hn' : 0 < n'
        · have hge : g ≠ .nil := by rintro rfl; simp [Tms.cnt] at hgn; omega
          have HL := Lib.hid (len_grp N c g r U hge)
          obtain ⟨hL0, hL1⟩ := len_bd hfg (m := 0) (by omega) (by omega)
          have HN := Lib.hid hfg
          clear hfg hfr
          generalize hLL : lenT g 0 = L at *
          have hp0 : 0 ≤ L * N := Int.mul_nonneg hL0 (by omega)
          have hp1 : L * N ≤ 201 * 200 := Int.mul_le_mul hL1 hN1 (by omega) (by omega)
          have m1 : ∀ (ts : Array TypeId) (t : TypeId) (w : World), (Builtin.min_ ts t #[.int .i64 (U + L * N), .int .i64 201]).run Tryz.prog w = .ok (.int .i64 (min (U + L * N) 201)) w := fun ts t w => run_min_t ts t _ _
          have f1 := IntWalk.i64_in (L * N) (by omega)
          have f2 := IntWalk.i64_in (U + L * N) (by omega)
          go_wp2_with (go_at_call 50; ((with_reducible refine (HC.out _ (by repeat (first | exact Ext.refl _ | assumption | refine Ext.alloc ?_ _ | refine Ext.drew ?_ | refine Ext.drewN ?_ _ | refine Ext.trans ?_ (by assumption)))).mono ?_); rintro e w1 ⟨rfl, hq1⟩; obtain ⟨hf1, hf2, hf3⟩ := hq1.facts))
          go_roundw
          case rel =>
            have hxx : Ext wr w1 := by repeat (first | exact Ext.refl _ | assumption | refine Ext.alloc ?_ _ | refine Ext.drew ?_ | refine Ext.drewN ?_ _ | refine Ext.trans ?_ (by assumption))
            obtain ⟨_, e2, e3, -⟩ := HH.out
            rw [HL.out] at e2
            refine ⟨k + 1, min (U + L * N) 201, r, by go_num, by go_num, by omega, by omega, by omega, Lib.hid ⟨HF.out, e2, e3.trans hxx, fun h => ?_⟩⟩
            refine ⟨b, off, rfl, Nat.lt_of_lt_of_le hb1 (Below.size hxx), ?_⟩
            rw [show off + (k + 1) * 6 = off + k * 6 + 6 by omega]
            exact hr.ext hxx hb1
          case measure => simp [intOf]; omega
        · obtain rfl := cnt_nil (t := g) (by omega)
          obtain rfl : n' = 0 := by omega
          have HL := Lib.hid (len_one N c r U)
          have m1 : ∀ (ts : Array TypeId) (t : TypeId) (w : World), (Builtin.min_ ts t #[.int .i64 (U + 1 * N), .int .i64 201]).run Tryz.prog w = .ok (.int .i64 (min (U + 1 * N) 201)) w := fun ts t w => run_min_t ts t _ _
          have m2 : ∀ (ts : Array TypeId) (t : TypeId) (w : World), (Builtin.min_ ts t #[.int .i64 (U + N), .int .i64 201]).run Tryz.prog w = .ok (.int .i64 (min (U + N) 201)) w := fun ts t w => run_min_t ts t _ _
          go_wp2_with fail
          go_roundw
          case rel =>
            obtain ⟨_, e2, e3, -⟩ := HH.out
            rw [HL.out] at e2
            refine ⟨k + 1, min (U + 1 * N) 201, r, by go_num, by first | go_num | simp, by omega, by omega, by omega, Lib.hid ⟨HF.out, e2, by first | exact e3 | exact e3.alloc _ , fun h => ?_⟩⟩
            refine ⟨b, off, rfl, by first | exact hb1 | exact Nat.lt_of_lt_of_le hb1 (Below.size ((Ext.refl wr).alloc _)), ?_⟩
            rw [show off + (k + 1) * 6 = off + k * 6 + 6 by omega]
            first | exact hr | exact hr.ext ((Ext.refl wr).alloc _) hb1
          case measure => simp [intOf]; omega
      · have hn0 : rest.cnt = 0 := by omega
        obtain rfl := cnt_nil hn0
        simp only [Tms.cnt] at hcnt
        obtain ⟨_, e2, e3, -⟩ := HH.out
        obtain rfl : k = n := by omega
        have q2 : lenT t 0 = U := e2.symm
        go_wp2
        go_ret
        first | exact ⟨rfl, by repeat (first | exact Ext.refl _ | assumption | refine Ext.alloc ?_ _ | refine Ext.drew ?_ | refine Ext.drewN ?_ _ | refine Ext.trans ?_ (by assumption))⟩ | (rw [q2]; exact ⟨rfl, by repeat (first | exact Ext.refl _ | assumption | refine Ext.alloc ?_ _ | refine Ext.drew ?_ | refine Ext.drewN ?_ _ | refine Ext.trans ?_ (by assumption))⟩)
end Go.Proofs.YtfbfkoeaihknoaaGreatDoor
