/- The finder of the shortest list: periods. -/
import Derived.Test.YtgbmeefcnjdjbaaStitchC
import Derived.Test.YtgbmeefcnjdjbaaTabP
namespace Go.Proofs.Ytgbmeefcnjdjbaa
set_option maxRecDepth 100000
set_option maxRecDepth 100000
open Go.RowKit Go.ChangeShapes Go.WideShapes Go.Joins
set_option maxHeartbeats 4000000 in
theorem periodic_any (g n c : Nat) (A : Option Addr) (l : List St) (a m p : Nat) (w : World) (hl : Vec shSt w A n l) (hg : w.cell? ⟨g, 0, none⟩ = some (.slice A n c)) (ham : a + m ≤ n) (hn : n ≤ 60) (hp : 1 ≤ p) (hpm : p ≤ m) :
    Calls Try.prog 18 #[.pointer (some ⟨g, 0, none⟩), .int .i64 a, .int .i64 m, .int .i64 p] w fun e w' => e = .returned (.bool (perB (sub l a m) p)) ∧ Ext w w' := by
  have HX := Lib.hid hl
  have hlen := hl.1
  have hz := World.block_lt_of_cell? w _ hg
  simp only at hz
  have hsl := sub_len (l := l) (a := a) (n := m) (by omega)
  have hp0 : ¬ ((p : Int) = 0) := by omega
  have s1 := IntWalk.i64_in ((a : Int) + (m : Int)) (by omega)
  clear hl
  by_cases hmod : m % p = 0
  case neg =>
    have HF := Lib.hid (per_mod (l := sub l a m) (p := p) (by rw [hsl]; exact hmod))
    have hm2 : ((m : Int) % (p : Int) != 0) = true := by
      simp
      omega
    go_enter Try.func18, Try.ntmps18
    go_wp2_with fail
    go_ret
    exact ⟨by rw [HF.out]; rfl, by repeat (first | exact Ext.refl _ | assumption | refine Ext.alloc ?_ _ | refine Ext.drew ?_ | refine Ext.drewN ?_ _ | refine Ext.trans ?_ (by assumption))⟩
  have hm2 : ((m : Int) % (p : Int) != 0) = false := by
    simp
    omega
  go_enter Try.func18, Try.ntmps18
  go_wp2_with fail
  go_loopw [9] (fun i wr => ∃ j : Nat, i = .int .i64 ((a : Int) + (j : Int)) ∧ j + p ≤ m ∧ Hid (∀ j', j' < j → (sub l a m).getD j' st0 = (sub l a m).getD (j' + p) st0) ∧ Hid (Ext w wr)) (fun i _ => a + m - (intOf i).toNat)
  case atStart => exact ⟨0, by simp, by omega, fun j hj => absurd hj (by omega), Ext.refl _⟩
  case round =>
    obtain ⟨j, rfl, hj, hall, hext⟩ := hrel
    have hx := hext.out
    have g0 := (Below.cell (p := ⟨g, 0, none⟩) hx hz).trans hg
    have gz := World.block_lt_of_cell? wr _ g0
    simp only at gz
    have s2 := IntWalk.i64_in ((a : Int) + (j : Int) + (p : Int)) (by omega)
    have s3 := IntWalk.i64_in ((a : Int) + (j : Int) + 1) (by omega)
    by_cases hlt : j + p < m
    · have q4 : (a : Int) + (j : Int) + (p : Int) < (a : Int) + (m : Int) := by omega
      obtain ⟨b, off, rfl, hb, hc⟩ := Sts.all (HX.out.ext hx) (by omega)
      obtain ⟨h1, h2, h3, h4⟩ := hc (a + j) (by omega)
      obtain ⟨h5, h6, h7, h8⟩ := hc (a + j + p) (by omega)
      clear hc
      have q0 : (0 : Int) ≤ (a : Int) + (j : Int) := by omega
      have q1 : (a : Int) + (j : Int) < (n : Int) := by omega
      have q2 : (0 : Int) ≤ (a : Int) + (j : Int) + (p : Int) := by omega
      have q3 : (a : Int) + (j : Int) + (p : Int) < (n : Int) := by omega
      have n1 : ((a : Int) + (j : Int)).toNat = a + j := by omega
      have n2 : ((a : Int) + (j : Int) + (p : Int)).toNat = a + j + p := by omega
      have e1 := sub_get (l := l) (a := a) (n := m) (j := j) (by omega)
      have e2 := sub_get (l := l) (a := a) (n := m) (j := j + p) (by omega)
      rw [← Nat.add_assoc] at e2
      by_cases hxy : l.getD (a + j) st0 = l.getD (a + j + p) st0
      · have HA := Lib.hid (show ∀ j', j' < j + 1 → (sub l a m).getD j' st0 = (sub l a m).getD (j' + p) st0 from fun j' hj' => by
          by_cases e : j' = j
          · subst e; rw [e1, e2]; exact hxy
          · exact hall.out j' (by omega))
        rw [← hxy] at h5 h6 h7 h8
        clear hall hxy e1 e2
        generalize l.getD (a + j) st0 = x at *
        obtain ⟨x1, x2, x3, x4⟩ := x
        simp only at h1 h2 h3 h4 h5 h6 h7 h8
        go_wp2_with fail
        go_quiet (fail)
        go_wp2
        go_roundw
        case rel => exact ⟨j + 1, by go_num, by omega, HA, by repeat (first | exact Ext.refl _ | assumption | refine Ext.alloc ?_ _ | refine Ext.drew ?_ | refine Ext.drewN ?_ _ | refine Ext.trans ?_ (by assumption))⟩
        case measure => simp [intOf]; omega
      · have HF := Lib.hid (per_at (l := sub l a m) (p := p) (j := j) (by rw [hsl]; exact hlt) (by rw [e1, e2]; exact hxy))
        clear e1 e2 hall
        generalize l.getD (a + j) st0 = x at *
        generalize l.getD (a + j + p) st0 = y at *
        obtain ⟨x1, x2, x3, x4⟩ := x
        obtain ⟨y1, y2, y3, y4⟩ := y
        simp only at h1 h2 h3 h4 h5 h6 h7 h8
        have hne := run_st_ne hxy
        clear hxy
        go_wp2_with fail
        go_quiet (fail)
        go_wp2
        go_ret
        exact ⟨by rw [HF.out]; rfl, by repeat (first | exact Ext.refl _ | assumption | refine Ext.alloc ?_ _ | refine Ext.drew ?_ | refine Ext.drewN ?_ _ | refine Ext.trans ?_ (by assumption))⟩
    · have q4 : ¬ ((a : Int) + (j : Int) + (p : Int) < (a : Int) + (m : Int)) := by omega
      have HF := Lib.hid (per_all_eq (l := sub l a m) (p := p) (by rw [hsl]; exact hmod) (by rw [hsl]; exact hpm) (fun j' hj' => hall.out j' (by rw [hsl] at hj'; omega)))
      go_wp2_with fail
      go_ret
      exact ⟨by rw [HF.out]; rfl, by repeat (first | exact Ext.refl _ | assumption | refine Ext.alloc ?_ _ | refine Ext.drew ?_ | refine Ext.drewN ?_ _ | refine Ext.trans ?_ (by assumption))⟩
end Go.Proofs.Ytgbmeefcnjdjbaa
