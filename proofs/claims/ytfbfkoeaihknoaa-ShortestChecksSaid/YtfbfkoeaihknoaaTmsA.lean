/- The walks of the checks of terms: size. -/
import Derived.Test.YtfbfkoeaihknoaaTms
import Derived.Deep.QuietTactic
import Derived.BigQuiet
import Derived.Laws.Small
import Derived.Deep.RegionHeld3
import Derived.Deep.DeepCutAuto
namespace Go.Proofs.Ytfbfkoeaihknoaa
open Go.RowKit Go.ChangeShapes Go.WideShapes Go.Joins
theorem cnt_cons {t : Tms} (h : 0 < t.cnt) : ∃ N c g r, t = .cons N c g r := by
  cases t with
  | nil => simp [Tms.cnt] at h
  | cons N c g r => exact ⟨N, c, g, r, rfl⟩
theorem cnt_size : ∀ t : Tms, t.cnt ≤ t.size := by
  intro t
  induction t with
  | nil => simp [Tms.cnt]
  | cons N c g r h1 h2 => simp [Tms.cnt, Tms.size]; omega
theorem depth_le : ∀ t : Tms, t.depth ≤ t.size := by
  intro t
  induction t with
  | nil => simp [Tms.depth, Tms.size]
  | cons N c g r h1 h2 => simp [Tms.depth, Tms.size]; omega
theorem run_max_t {P : Program} {w : World} (ts : Array TypeId) (t : TypeId) (x y : Int) : (Builtin.max_ ts t #[.int .i64 x, .int .i64 y]).run P w = .ok (.int .i64 (max x y)) w := by
  rw [run_max_int2]
  congr 2
  split <;> omega
theorem run_min_t {P : Program} {w : World} (ts : Array TypeId) (t : TypeId) (x y : Int) : (Builtin.min_ ts t #[.int .i64 x, .int .i64 y]).run P w = .ok (.int .i64 (min x y)) w := by
  rw [run_min_int2]
  congr 2
  split <;> omega
set_option maxHeartbeats 1000000 in
theorem size_any : ∀ (M : Nat), M ≤ 5000 → ∀ (t : Tms), t.size ≤ M → ∀ (A : Option Addr) (n cap : Nat) (w : World), Tv w A n t →
    Calls Try.prog 25 #[.slice A n cap] w fun e w' => e = .returned (.tuple #[.int .i64 (szM t), .int .i64 t.depth]) ∧ Ext w w' := by
  intro M
  induction M using Nat.strongRecOn with
  | ind M ih =>
    intro hM t ht A n cap w hv
    have HI := Lib.hid ih
    have HV := Lib.hid hv
    have hnm : n ≤ 5000 := by have h1 := hv.1; have h2 := cnt_size t; omega
    clear ih hv
    go_enter Try.func25, Try.ntmps25
    go_wp2_with fail
    go_loopw [2, 3, 10] (fun u d i wr => ∃ (k : Nat) (U : Int) (D : Nat) (rest : Tms), i = .int .i64 k ∧ u = .int .i64 U ∧ d = .int .i64 D ∧ rest.cnt + k = n ∧ rest.size ≤ M ∧ (0 ≤ U ∧ U ≤ 201) ∧ D ≤ 5000 ∧
      Hid (min (U + rest.size) 201 = szM t ∧ max D rest.depth = t.depth ∧ Ext w wr ∧ (0 < rest.cnt → ∃ b off, A = some ⟨b, off, none⟩ ∧ b < wr.heap.size ∧ TAt wr rest b (off + k * 6)))) (fun _ _ i _ => n - (intOf i).toNat)
    case atStart =>
      refine ⟨0, 0, 0, t, rfl, rfl, rfl, by have := HV.out.1; omega, ht, by omega, by omega, Lib.hid ⟨by simp [szM], by simp, Ext.refl _, fun h => ?_⟩⟩
      obtain ⟨h1, h2, h3⟩ := HV.out
      obtain ⟨b, off, e, hb, hc⟩ := h3 (by omega)
      exact ⟨b, off, e, hb, by simpa using hc⟩
    case round =>
      obtain ⟨k, U, D, rest, rfl, rfl, rfl, hcnt, hrs, ⟨hU0, hU1⟩, hD, HH⟩ := hrel
      by_cases hlt : 0 < rest.cnt
      · obtain ⟨N, c, g, r, rfl⟩ := cnt_cons hlt
        obtain ⟨b, off, rfl, hb1, hc⟩ := HH.out.2.2.2 hlt
        obtain ⟨A', n', cap', c0, c1, c2, c3, c4, c5, hkk, hg, hr⟩ := hc.head
        have hxr := HH.out.2.2.1
        simp only [Tms.cnt, Tms.size] at hcnt hrs
        have hkn : k < n := by omega
        have hz := World.block_lt_of_cell? wr _ c0
        have hcall := fun (w' : World) (h : Ext wr w') => HI.out (M - 1) (by omega) (by omega) g (by omega) A' n' cap' w' (hg.ext h)
        have HC := Lib.hid hcall
        clear hcall hc
        have hg0 : 0 ≤ szM g ∧ szM g ≤ 201 := by unfold szM; omega
        have hgs : min (g.size : Int) 201 = szM g := rfl
        have hgd := depth_le g
        have hsz : (Tms.cons N c g r).size = 1 + g.size + r.size := rfl
        have hdp : (Tms.cons N c g r).depth = max (g.depth + 1) r.depth := rfl
        have m1 : ∀ (ts : Array TypeId) (t : TypeId) (w : World), (Builtin.min_ ts t #[.int .i64 (U + 1 + szM g), .int .i64 201]).run Try.prog w = .ok (.int .i64 (min (U + 1 + szM g) 201)) w := fun ts t w => run_min_t ts t _ _
        have m2 : ∀ (ts : Array TypeId) (t : TypeId) (w : World), (Builtin.max_ ts t #[.int .i64 D, .int .i64 ((g.depth : Int) + 1)]).run Try.prog w = .ok (.int .i64 (max (D : Int) ((g.depth : Int) + 1))) w := fun ts t w => run_max_t ts t _ _
        go_wp2_with (go_at_call 25; ((with_reducible refine (HC.out _ (by repeat (first | exact Ext.refl _ | assumption | refine Ext.alloc ?_ _ | refine Ext.drew ?_ | refine Ext.drewN ?_ _ | refine Ext.trans ?_ (by assumption)))).mono ?_); rintro e w1 ⟨rfl, hq1⟩))
        go_roundw
        case rel =>
          have hxx : Ext wr w1 := by repeat (first | exact Ext.refl _ | assumption | refine Ext.alloc ?_ _ | refine Ext.drew ?_ | refine Ext.drewN ?_ _ | refine Ext.trans ?_ (by assumption))
          obtain ⟨e1, e2, e3, -⟩ := HH.out
          rw [hsz] at e1
          rw [hdp] at e2
          have q1 : min (min (U + 1 + szM g) 201 + (r.size : Int)) 201 = szM t := by rw [← e1, ← (show min (g.size : Int) 201 = szM g from rfl)]; omega
          have q2 : max (max D (g.depth + 1)) r.depth = t.depth := by rw [← e2]; omega
          have q3 : g.depth ≤ g.size := depth_le g
          have q4 : 0 ≤ szM g := hg0.1
          refine ⟨k + 1, min (U + 1 + szM g) 201, max D (g.depth + 1), r, by go_num, rfl, ?_, by omega, by omega, by omega, by omega, Lib.hid ⟨q1, q2, e3.trans hxx, fun h => ?_⟩⟩
          · rw [show ((max D (g.depth + 1) : Nat) : Int) = max (D : Int) ((g.depth : Int) + 1) by omega]
          · refine ⟨b, off, rfl, Nat.lt_of_lt_of_le hb1 (Below.size hxx), ?_⟩
            rw [show off + (k + 1) * 6 = off + k * 6 + 6 by omega]
            exact hr.ext hxx hb1
        case measure => simp [intOf]; omega
      · have hn0 : rest.cnt = 0 := by omega
        obtain rfl := cnt_nil hn0
        simp only [Tms.cnt] at hcnt
        obtain ⟨e1, e2, e3, -⟩ := HH.out
        simp only [Tms.size, Tms.depth] at e1 e2
        obtain rfl : k = n := by omega
        go_wp2
        go_ret2
        have q1 : szM t = U := by rw [← e1]; omega
        have q2 : t.depth = D := by rw [← e2]; omega
        rw [q1, q2]
        exact ⟨rfl, by repeat (first | exact Ext.refl _ | assumption | refine Ext.alloc ?_ _ | refine Ext.drew ?_ | refine Ext.drewN ?_ _ | refine Ext.trans ?_ (by assumption))⟩
end Go.Proofs.Ytfbfkoeaihknoaa
