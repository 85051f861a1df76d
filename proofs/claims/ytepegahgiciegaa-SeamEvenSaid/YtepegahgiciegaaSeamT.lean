/- The contracts of the reference of seam, third part, and of most. -/
import Derived.Test.YtepegahgiciegaaSeamS
namespace Go.Proofs.Ytepegahgiciegaa
open Go.RowKit

set_option maxHeartbeats 1000000 in
theorem rshares_any (n c : Nat) (A : Option Addr) (l : List (Int × Int)) (a b : Int) (w : World) (hl : Vec shPair w A n l) (hm : n ≤ maxLen) :
    Calls Try.prog 22 #[.slice A n c, .int .i64 a, .int .i64 b] w (ShE w (shXL l a b) (shYL l a b) (chkE l a b)) := by
  have HX := Lib.hid hl
  have hchk := rcheck39_any n c A l a b w hl hm
  clear hl
  unfold maxLen at hm
  by_cases h : chkE l a b = 0
  case neg =>
    have H1 := Lib.hid (show shXL l a b = [] by rw [shXL, if_neg h])
    have H2 := Lib.hid (show shYL l a b = [] by rw [shYL, if_neg h])
    have hb : (chkE l a b != 0) = true := by simpa using h
    have HCK := Lib.hid hchk
    clear h hchk
    generalize chkE l a b = e0 at *
    go_enter Try.func22, Try.ntmps22
    go_wp2_with (go_at_call 25; ((with_reducible refine (HCK.out).mono ?_); rintro e w1 ⟨rfl, hq⟩))
    go_ret3
    exact ShE.mk none 0 none 0 (by rw [H1.out, H2.out]; rfl) (by rw [H1.out]; exact Ints.none_ _ _) (by rw [H2.out]; exact Ints.none_ _ _) (by repeat (first | exact Ext.refl _ | assumption | refine Ext.alloc ?_ _ | refine Ext.drew ?_ | refine Ext.drewN ?_ _ | refine Ext.trans ?_ (by assumption)))
  obtain ⟨⟨a0, a1, b0, b1⟩, hs⟩ := chk_e h
  obtain ⟨p, rfl⟩ := Int.eq_ofNat_of_zero_le (show 0 ≤ a by omega)
  obtain ⟨q, rfl⟩ := Int.eq_ofNat_of_zero_le (show 0 ≤ b by omega)
  have H1 := Lib.hid (show shXL l p q = (List.range p).map (shX l) by rw [shXL, if_pos h]; rfl)
  have H2 := Lib.hid (show shYL l p q = (List.range q).map (shY l) by rw [shYL, if_pos h]; rfl)
  have HS := Lib.hid (seam_in hs)
  rw [h] at hchk
  have HCK := Lib.hid hchk
  have H0 := Lib.hid h
  clear h hchk hs
  have m1 := run_zeros (P := Try.prog) 29 3 Try.underlying29 info_int p (by omega)
  have m2 := run_zeros (P := Try.prog) 29 3 Try.underlying29 info_int q (by omega)
  go_enter Try.func22, Try.ntmps22
  go_wp2_with (go_at_call 25; ((with_reducible refine (HCK.out).mono ?_); rintro e w1 ⟨rfl, hq⟩))
  go_region
  all_goals clear m1 m2
  all_goals go_wp2_with fail
  · go_loopw [12] (fun i wr => ∃ k : Nat, k ≤ n ∧ i = .int .i64 k ∧ Hid (RowV wr (w1.heap.size) p (fun j => .int .i64 (shX (l.take k) j))) ∧ Hid (RowV wr (w1.heap.size + 1) q (fun j => .int .i64 (shY (l.take k) j))) ∧ Hid (Ext w wr)) (fun i _ => n - (intOf i).toNat)
    case atStart => exact ⟨0, by omega, rfl, ((RowV.zeros _ _ _).ext (((Ext.refl _).alloc _).drew)).congr (fun j _ => by simp [shX]), by
        have h := ((RowV.zeros (w1.alloc (.cells (zeroRow p) 3)) q 3).congr (f' := fun j => .int .i64 (shY (l.take 0) j)) (fun j _ => by simp [shY])).ext ((Ext.refl _).drew)
        rw [show (w1.alloc (.cells (zeroRow p) 3)).heap.size = w1.heap.size + 1 by simp] at h
        exact h, by repeat (first | exact Ext.refl _ | assumption | refine Ext.alloc ?_ _ | refine Ext.drew ?_ | refine Ext.drewN ?_ _ | refine Ext.trans ?_ (by assumption))⟩
    case round =>
      obtain ⟨k, hk, rfl, hrA, hrB, hext⟩ := hrel
      by_cases hlt : k < n
      · obtain ⟨A1, o1, rfl, hb1, hc1, hc2⟩ := Prs.at_ HX.out hlt
        have hln := HX.out.1
        have c1 := (Below.cell (p := ⟨A1, o1 + k * 2, none⟩) hext.out hb1).trans hc1
        have c2 := (Below.cell (p := ⟨A1, o1 + k * 2 + 1, none⟩) hext.out hb1).trans hc2
        obtain ⟨u0, u1, u2, u3⟩ := HS.out k (by omega)
        have hX := fun j => shX_succ (l := l) (k := k) (by omega) j
        have hY := fun j => shY_succ (l := l) (k := k) (by omega) j
        have hbA := fun j => sh_bd (l.take k) j
        have hlt2 : (l.take k).length ≤ k := by rw [List.length_take]; omega
        clear hc1 hc2 hln
        generalize l.getD k (0, 0) = xy at *
        obtain ⟨x, y⟩ := xy
        simp only at c1 c2 u0 u1 u2 u3 hX hY
        obtain ⟨x, rfl⟩ := Int.eq_ofNat_of_zero_le u0
        obtain ⟨y, rfl⟩ := Int.eq_ofNat_of_zero_le u2
        have hx : x < p := by omega
        have hy : y < q := by omega
        have cA := hrA.out.at_ hx
        have fA := hrA.out.free hx
        have zA := hrA.out.lt
        have cB := hrB.out.at_ hy
        have fB := hrB.out.free hy
        have zB := hrB.out.lt
        have bdA := hbA x
        have bdB := hbA y
        obtain ⟨bd1, bd2, _, _⟩ := bdA
        obtain ⟨_, _, bd3, bd4⟩ := bdB
        have nA : ¬ wr.heap.size = w1.heap.size := by omega
        have hz9 := Below.size hq
        have nC : ¬ A1 = w1.heap.size := by omega
        have nD : ¬ A1 = w1.heap.size + 1 := by omega
        clear hz9
        have nB : ¬ wr.heap.size = w1.heap.size + 1 := by omega
        have R1 := Lib.hid (show RowV ((wr.setCell ⟨w1.heap.size, x, none⟩ (.int .i64 (shX (l.take k) x + 1))).setCell ⟨w1.heap.size + 1, y, none⟩ (.int .i64 (shY (l.take k) y + 1))) (w1.heap.size) p (fun j => .int .i64 (shX (l.take (k + 1)) j)) from
          ((hrA.out.set hx _).far (by simp) _).congr fun j _ => by
            rw [hX]
            by_cases e : j = x
            · subst e; simp
            · rw [if_neg e, if_neg (by omega)]; simp)
        have R2 := Lib.hid (show RowV ((wr.setCell ⟨w1.heap.size, x, none⟩ (.int .i64 (shX (l.take k) x + 1))).setCell ⟨w1.heap.size + 1, y, none⟩ (.int .i64 (shY (l.take k) y + 1))) (w1.heap.size + 1) q (fun j => .int .i64 (shY (l.take (k + 1)) j)) from
          ((hrB.out.far (by simp) _).set hy _).congr fun j _ => by
            rw [hY]
            by_cases e : j = y
            · subst e; simp
            · rw [if_neg e, if_neg (by omega)]; simp)
        have hz0 := Below.size hq
        have R3 := Lib.hid (show Ext w ((wr.setCell ⟨w1.heap.size, x, none⟩ (.int .i64 (shX (l.take k) x + 1))).setCell ⟨w1.heap.size + 1, y, none⟩ (.int .i64 (shY (l.take k) y + 1))) from
          Below.setCell (Below.setCell hext.out (by simp; omega) _) (by simp; omega) _)
        clear hX hY hbA hrA hrB hext hz0 hq
        go_wp2
        go_roundw
        case rel => exact ⟨k + 1, by omega, by go_num, R1, R2, R3⟩
        case measure => simp [intOf]; omega
      · obtain rfl : k = n := by omega
        have e1 : l.take k = l := List.take_of_length_le (by rw [HX.out.1]; omega)
        rw [e1] at hrA hrB
        have I1 := Lib.hid (Ints.of_row hrA.out)
        have I2 := Lib.hid (Ints.of_row hrB.out)
        clear e1 hrA hrB
        go_wp2
        go_ret3
        refine ShE.mk (some ⟨w1.heap.size, 0, none⟩) p (some ⟨w1.heap.size + 1, 0, none⟩) q ?_ ?_ ?_ hext.out
        · rw [H1.out, H2.out, H0.out]; simp
        · rw [H1.out]; simpa using I1.out
        · rw [H2.out]; simpa using I2.out
  · go_loopw [12] (fun i wr => ∃ k : Nat, k ≤ n ∧ i = .int .i64 k ∧ Hid (RowV wr (w1.heap.size + 1) p (fun j => .int .i64 (shX (l.take k) j))) ∧ Hid (RowV wr (w1.heap.size) q (fun j => .int .i64 (shY (l.take k) j))) ∧ Hid (Ext w wr)) (fun i _ => n - (intOf i).toNat)
    case atStart => exact ⟨0, by omega, rfl, by
        have h := ((RowV.zeros (w1.alloc (.cells (zeroRow q) 3)) p 3).congr (f' := fun j => .int .i64 (shX (l.take 0) j)) (fun j _ => by simp [shX])).ext ((Ext.refl _).drew)
        rw [show (w1.alloc (.cells (zeroRow q) 3)).heap.size = w1.heap.size + 1 by simp] at h
        exact h, ((RowV.zeros _ _ _).ext (((Ext.refl _).alloc _).drew)).congr (fun j _ => by simp [shY]), by repeat (first | exact Ext.refl _ | assumption | refine Ext.alloc ?_ _ | refine Ext.drew ?_ | refine Ext.drewN ?_ _ | refine Ext.trans ?_ (by assumption))⟩
    case round =>
      obtain ⟨k, hk, rfl, hrA, hrB, hext⟩ := hrel
      by_cases hlt : k < n
      · obtain ⟨A1, o1, rfl, hb1, hc1, hc2⟩ := Prs.at_ HX.out hlt
        have hln := HX.out.1
        have c1 := (Below.cell (p := ⟨A1, o1 + k * 2, none⟩) hext.out hb1).trans hc1
        have c2 := (Below.cell (p := ⟨A1, o1 + k * 2 + 1, none⟩) hext.out hb1).trans hc2
        obtain ⟨u0, u1, u2, u3⟩ := HS.out k (by omega)
        have hX := fun j => shX_succ (l := l) (k := k) (by omega) j
        have hY := fun j => shY_succ (l := l) (k := k) (by omega) j
        have hbA := fun j => sh_bd (l.take k) j
        have hlt2 : (l.take k).length ≤ k := by rw [List.length_take]; omega
        clear hc1 hc2 hln
        generalize l.getD k (0, 0) = xy at *
        obtain ⟨x, y⟩ := xy
        simp only at c1 c2 u0 u1 u2 u3 hX hY
        obtain ⟨x, rfl⟩ := Int.eq_ofNat_of_zero_le u0
        obtain ⟨y, rfl⟩ := Int.eq_ofNat_of_zero_le u2
        have hx : x < p := by omega
        have hy : y < q := by omega
        have cA := hrA.out.at_ hx
        have fA := hrA.out.free hx
        have zA := hrA.out.lt
        have cB := hrB.out.at_ hy
        have fB := hrB.out.free hy
        have zB := hrB.out.lt
        have bdA := hbA x
        have bdB := hbA y
        obtain ⟨bd1, bd2, _, _⟩ := bdA
        obtain ⟨_, _, bd3, bd4⟩ := bdB
        have nA : ¬ wr.heap.size = w1.heap.size + 1 := by omega
        have hz9 := Below.size hq
        have nC : ¬ A1 = w1.heap.size := by omega
        have nD : ¬ A1 = w1.heap.size + 1 := by omega
        clear hz9
        have nB : ¬ wr.heap.size = w1.heap.size := by omega
        have R1 := Lib.hid (show RowV ((wr.setCell ⟨w1.heap.size + 1, x, none⟩ (.int .i64 (shX (l.take k) x + 1))).setCell ⟨w1.heap.size, y, none⟩ (.int .i64 (shY (l.take k) y + 1))) (w1.heap.size + 1) p (fun j => .int .i64 (shX (l.take (k + 1)) j)) from
          ((hrA.out.set hx _).far (by simp) _).congr fun j _ => by
            rw [hX]
            by_cases e : j = x
            · subst e; simp
            · rw [if_neg e, if_neg (by omega)]; simp)
        have R2 := Lib.hid (show RowV ((wr.setCell ⟨w1.heap.size + 1, x, none⟩ (.int .i64 (shX (l.take k) x + 1))).setCell ⟨w1.heap.size, y, none⟩ (.int .i64 (shY (l.take k) y + 1))) (w1.heap.size) q (fun j => .int .i64 (shY (l.take (k + 1)) j)) from
          ((hrB.out.far (by simp) _).set hy _).congr fun j _ => by
            rw [hY]
            by_cases e : j = y
            · subst e; simp
            · rw [if_neg e, if_neg (by omega)]; simp)
        have hz0 := Below.size hq
        have R3 := Lib.hid (show Ext w ((wr.setCell ⟨w1.heap.size + 1, x, none⟩ (.int .i64 (shX (l.take k) x + 1))).setCell ⟨w1.heap.size, y, none⟩ (.int .i64 (shY (l.take k) y + 1))) from
          Below.setCell (Below.setCell hext.out (by simp; omega) _) (by simp; omega) _)
        clear hX hY hbA hrA hrB hext hz0 hq
        go_wp2
        go_roundw
        case rel => exact ⟨k + 1, by omega, by go_num, R1, R2, R3⟩
        case measure => simp [intOf]; omega
      · obtain rfl : k = n := by omega
        have e1 : l.take k = l := List.take_of_length_le (by rw [HX.out.1]; omega)
        rw [e1] at hrA hrB
        have I1 := Lib.hid (Ints.of_row hrA.out)
        have I2 := Lib.hid (Ints.of_row hrB.out)
        clear e1 hrA hrB
        go_wp2
        go_ret3
        refine ShE.mk (some ⟨w1.heap.size + 1, 0, none⟩) p (some ⟨w1.heap.size, 0, none⟩) q ?_ ?_ ?_ hext.out
        · rw [H1.out, H2.out, H0.out]; simp
        · rw [H1.out]; simpa using I1.out
        · rw [H2.out]; simpa using I2.out

theorem run_min_i {P : Program} {w : World} (ts : Array TypeId) (t : TypeId) (x y : Int) : (Builtin.min_ ts t #[.int .i64 x, .int .i64 y]).run P w = .ok (.int .i64 (min x y)) w := by
  rw [run_min_int2]
  congr 2
  split <;> omega

set_option maxHeartbeats 400000 in
theorem most_any (n c : Nat) (A : Option Addr) (l : List Int) (w : World) (hl : Ints w A n l) (hn : 0 < n) (hm : n ≤ 1000000) :
    Calls Try.prog 27 #[.slice A n c] w fun e w' => e = .returned (.tuple #[.int .i64 (lowL l n), .int .i64 (highL l n)]) ∧ Ext w w' := by
  have HX := Lib.hid hl
  obtain ⟨A1, o1, rfl, hb1, hc⟩ := hl.2 hn
  have h0 := hc 0 hn
  rw [Nat.add_zero] at h0
  have hn0 : (0 : Int) < (n : Int) := by omega
  have HC := Lib.hid hc
  have HL := Lib.hid hl.1
  have e1 := Lib.hid (show lowL l 0 = l.getD 0 0 by simp [lowL])
  have e2 := Lib.hid (show highL l 0 = l.getD 0 0 by simp [highL])
  clear hc hl
  generalize l.getD 0 0 = x0 at *
  go_enter Try.func27, Try.ntmps27
  go_wp2_with fail
  go_quiet (fail)
  clear h0
  go_wp2_with fail
  go_loopw [4, 5, 6] (fun u v i wr => ∃ k : Nat, k ≤ n ∧ i = .int .i64 k ∧ u = .int .i64 (lowL l k) ∧ v = .int .i64 (highL l k) ∧ Hid (Ext w wr)) (fun _ _ i _ => n - (intOf i).toNat)
  case atStart => exact ⟨0, by omega, rfl, by rw [e1.out], by rw [e2.out], by repeat (first | exact Ext.refl _ | assumption | refine Ext.alloc ?_ _ | refine Ext.drew ?_ | refine Ext.drewN ?_ _ | refine Ext.trans ?_ (by assumption))⟩
  case round =>
    obtain ⟨k, hk, rfl, rfl, rfl, hext⟩ := hrel
    have hE := Lib.hid hext.out
    by_cases hlt : k < n
    · have h1 := (Below.cell (p := ⟨A1, o1 + k, none⟩) hext.out hb1).trans (HC.out k hlt)
      have s1 := lowL_succ (l := l) (k := k) (by rw [HL.out]; exact hlt)
      have s2 := highL_succ (l := l) (k := k) (by rw [HL.out]; exact hlt)
      have hz1 := World.block_lt_of_cell? wr _ h1
      have hi0 : (0 : Int) ≤ (k : Int) := by omega
      have hi1 : (k : Int) < (n : Int) := by omega
      have S1 := Lib.hid s1
      have S2 := Lib.hid s2
      clear s1 s2 hext
      generalize l.getD k 0 = x at *
      generalize lowL l k = u at *
      generalize highL l k = v at *
      have m1 : ∀ (ts : Array TypeId) (t : TypeId) (w : World), (Builtin.min_ ts t #[.int .i64 u, .int .i64 x]).run Try.prog w = .ok (.int .i64 (min u x)) w := fun ts t w => run_min_i ts t u x
      have m2 : ∀ (ts : Array TypeId) (t : TypeId) (w : World), (Builtin.max_ ts t #[.int .i64 v, .int .i64 x]).run Try.prog w = .ok (.int .i64 (max v x)) w := fun ts t w => run_max_i ts t v x
      go_wp2_with fail
      go_region_held3 (fun w' => w'.cell? ⟨A1, o1 + k, none⟩ = some (.int .i64 x)) (go_keep) (fail)
      clear m1 m2
      have := hE.out
      all_goals
        go_wp2
        go_roundw
        case rel => exact ⟨k + 1, by omega, by go_num, by rw [S1.out], by rw [S2.out], by repeat (first | exact Ext.refl _ | assumption | refine Ext.alloc ?_ _ | refine Ext.drew ?_ | refine Ext.drewN ?_ _ | refine Ext.trans ?_ (by assumption))⟩
        case measure => simp [intOf]; omega
    · obtain rfl : k = n := by omega
      have := hE.out
      go_wp2
      go_ret2
      exact ⟨rfl, by repeat (first | exact Ext.refl _ | assumption | refine Ext.alloc ?_ _ | refine Ext.drew ?_ | refine Ext.drewN ?_ _ | refine Ext.trans ?_ (by assumption))⟩
end Go.Proofs.Ytepegahgiciegaa
