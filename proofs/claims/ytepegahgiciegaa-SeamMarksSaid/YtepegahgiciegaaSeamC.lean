/- The contract of Shares of seam. -/
import Derived.Test.YtepegahgiciegaaSeamB
import Derived.Test.YtepegahgiciegaaMake
namespace Go.Proofs.Ytepegahgiciegaa
open Go.RowKit

/-- what Shares ends with -/
def ShE (w : World) (X Y : List Int) (c : Int) (e : Ending) (w' : World) : Prop :=
  ∃ A cap B cap', e = .returned (.tuple #[.slice A X.length cap, .slice B Y.length cap', .int .i64 c]) ∧ Ints w' A X.length X ∧ Ints w' B Y.length Y ∧ Ext w w'
theorem ShE.mk {w : World} {X Y : List Int} {c : Int} {e : Ending} {w' : World} (A : Option Addr) (cap : Nat) (B : Option Addr) (cap' : Nat)
    (h1 : e = .returned (.tuple #[.slice A X.length cap, .slice B Y.length cap', .int .i64 c])) (h2 : Ints w' A X.length X) (h3 : Ints w' B Y.length Y) (h4 : Ext w w') : ShE w X Y c e w' := ⟨A, cap, B, cap', h1, h2, h3, h4⟩
theorem chk_cases (l : List (Int × Int)) (a b : Int) : chkE l a b = 0 ∨ chkE l a b ≠ 0 := by omega
theorem chk_e {l : List (Int × Int)} {a b : Int} (h : chkE l a b = 0) : (1 ≤ a ∧ a ≤ 1000 ∧ 1 ≤ b ∧ b ≤ 1000) ∧ seamB l a b = true := by
  unfold chkE at h
  split at h
  · rename_i h0
    split at h
    · rename_i h1
      exact ⟨edOk_e h0, h1⟩
    · omega
  · omega

set_option maxHeartbeats 1000000 in
theorem shares_any (n c : Nat) (A : Option Addr) (l : List (Int × Int)) (a b : Int) (w : World) (hl : Vec shPair w A n l) (hm : n ≤ maxLen) :
    Calls Try.prog 21 #[.slice A n c, .int .i64 a, .int .i64 b] w (ShE w (shXL l a b) (shYL l a b) (chkE l a b)) := by
  have HX := Lib.hid hl
  have hchk := check_any n c A l a b w hl hm
  clear hl
  unfold maxLen at hm
  by_cases h : chkE l a b = 0
  case neg =>
    have H1 := Lib.hid (show shXL l a b = [] by rw [shXL, if_neg h])
    have H2 := Lib.hid (show shYL l a b = [] by rw [shYL, if_neg h])
    have hb : (chkE l a b != 0) = true := by simpa using h
    have HCK := Lib.hid hchk
    clear h hchk
    generalize chkE l a b = e0 at *
    go_enter Try.func21, Try.ntmps21
    go_wp2_with (go_at_call 24; ((with_reducible refine (HCK.out).mono ?_); rintro e w1 ⟨rfl, hq⟩))
    go_ret3
    exact ShE.mk none 0 none 0 (by rw [H1.out, H2.out]; rfl) (by rw [H1.out]; exact Ints.none_ _ _) (by rw [H2.out]; exact Ints.none_ _ _) (by repeat (first | exact Ext.refl _ | assumption | refine Ext.alloc ?_ _ | refine Ext.drew ?_ | refine Ext.drewN ?_ _ | refine Ext.trans ?_ (by assumption)))
  obtain ⟨⟨a0, a1, b0, b1⟩, hs⟩ := chk_e h
  obtain ⟨p, rfl⟩ := Int.eq_ofNat_of_zero_le (show 0 ≤ a by omega)
  obtain ⟨q, rfl⟩ := Int.eq_ofNat_of_zero_le (show 0 ≤ b by omega)
  have H1 := Lib.hid (show shXL l p q = (List.range p).map (shX l) by rw [shXL, if_pos h]; rfl)
  have H2 := Lib.hid (show shYL l p q = (List.range q).map (shY l) by rw [shYL, if_pos h]; rfl)
  have HS := Lib.hid (seam_in hs)
  rw [h] at hchk
  have HCK := Lib.hid hchk
  have H0 := Lib.hid h
  clear h hchk hs
  have m1 := run_zeros (P := Try.prog) 29 3 Try.underlying29 info_int p (by omega)
  have m2 := run_zeros (P := Try.prog) 29 3 Try.underlying29 info_int q (by omega)
  go_enter Try.func21, Try.ntmps21
  go_wp2_with (go_at_call 24; ((with_reducible refine (HCK.out).mono ?_); rintro e w1 ⟨rfl, hq⟩))
  go_region
  all_goals clear m1 m2
  all_goals go_wp2_with fail
  · go_loopw [27] (fun i wr => ∃ k : Nat, k ≤ n ∧ i = .int .i64 k ∧ Hid (RowV wr (w1.heap.size) p (fun j => .int .i64 (shX (l.take k) j))) ∧ Hid (RowV wr (w1.heap.size + 1) q (fun j => .int .i64 (shY (l.take k) j))) ∧ Hid (Ext w wr)) (fun i _ => n - (intOf i).toNat)
    case atStart => exact ⟨0, by omega, rfl, ((RowV.zeros _ _ _).ext (((Ext.refl _).alloc _).drew)).congr (fun j _ => by simp [shX]), by
        have h := ((RowV.zeros (w1.alloc (.cells (zeroRow p) 3)) q 3).congr (f' := fun j => .int .i64 (shY (l.take 0) j)) (fun j _ => by simp [shY])).ext ((Ext.refl _).drew)
        rw [show (w1.alloc (.cells (zeroRow p) 3)).heap.size = w1.heap.size + 1 by simp] at h
        exact h, by repeat (first | exact Ext.refl _ | assumption | refine Ext.alloc ?_ _ | refine Ext.drew ?_ | refine Ext.drewN ?_ _ | refine Ext.trans ?_ (by assumption))⟩
    case round =>
      obtain ⟨k, hk, rfl, hrA, hrB, hext⟩ := hrel
      by_cases hlt : k < n
      · obtain ⟨A1, o1, rfl, hb1, hc1, hc2⟩ := Prs.at_ HX.out hlt
        have hln := HX.out.1
        have c1 := (Below.cell (p := ⟨A1, o1 + k * 2, none⟩) hext.out hb1).trans hc1
        have c2 := (Below.cell (p := ⟨A1, o1 + k * 2 + 1, none⟩) hext.out hb1).trans hc2
        obtain ⟨u0, u1, u2, u3⟩ := HS.out k (by omega)
        have hX := fun j => shX_succ (l := l) (k := k) (by omega) j
        have hY := fun j => shY_succ (l := l) (k := k) (by omega) j
        have hbA := fun j => sh_bd (l.take k) j
        have hlt2 : (l.take k).length ≤ k := by rw [List.length_take]; omega
        clear hc1 hc2 hln
        generalize l.getD k (0, 0) = xy at *
        obtain ⟨x, y⟩ := xy
        simp only at c1 c2 u0 u1 u2 u3 hX hY
        obtain ⟨x, rfl⟩ := Int.eq_ofNat_of_zero_le u0
        obtain ⟨y, rfl⟩ := Int.eq_ofNat_of_zero_le u2
        have hx : x < p := by omega
        have hy : y < q := by omega
        have cA := hrA.out.at_ hx
        have fA := hrA.out.free hx
        have zA := hrA.out.lt
        have cB := hrB.out.at_ hy
        have fB := hrB.out.free hy
        have zB := hrB.out.lt
        have bdA := hbA x
        have bdB := hbA y
        obtain ⟨bd1, bd2, _, _⟩ := bdA
        obtain ⟨_, _, bd3, bd4⟩ := bdB
        have nA : ¬ wr.heap.size = w1.heap.size := by omega
        have nB : ¬ wr.heap.size = w1.heap.size + 1 := by omega
        have R1 := Lib.hid (show RowV (((wr.setCell ⟨w1.heap.size, x, none⟩ (.int .i64 (shX (l.take k) x + 1))).setCell ⟨w1.heap.size + 1, y, none⟩ (.int .i64 (shY (l.take k) y + 1))).alloc (.cells #[.int .i64 (x : Int), .int .i64 (y : Int)] 55)) (w1.heap.size) p (fun j => .int .i64 (shX (l.take (k + 1)) j)) from
          (((hrA.out.set hx _).far (by simp) _).ext ((Ext.refl _).alloc _)).congr fun j _ => by
            rw [hX]
            by_cases e : j = x
            · subst e; simp
            · rw [if_neg e, if_neg (by omega)]; simp)
        have R2 := Lib.hid (show RowV (((wr.setCell ⟨w1.heap.size, x, none⟩ (.int .i64 (shX (l.take k) x + 1))).setCell ⟨w1.heap.size + 1, y, none⟩ (.int .i64 (shY (l.take k) y + 1))).alloc (.cells #[.int .i64 (x : Int), .int .i64 (y : Int)] 55)) (w1.heap.size + 1) q (fun j => .int .i64 (shY (l.take (k + 1)) j)) from
          (((hrB.out.far (by simp) _).set hy _).ext ((Ext.refl _).alloc _)).congr fun j _ => by
            rw [hY]
            by_cases e : j = y
            · subst e; simp
            · rw [if_neg e, if_neg (by omega)]; simp)
        have hz0 := Below.size hq
        have R3 := Lib.hid (show Ext w (((wr.setCell ⟨w1.heap.size, x, none⟩ (.int .i64 (shX (l.take k) x + 1))).setCell ⟨w1.heap.size + 1, y, none⟩ (.int .i64 (shY (l.take k) y + 1))).alloc (.cells #[.int .i64 (x : Int), .int .i64 (y : Int)] 55)) from
          Ext.alloc (Below.setCell (Below.setCell hext.out (by simp; omega) _) (by simp; omega) _) _)
        clear hX hY hbA hrA hrB hext hz0 hq
        go_wp2
        go_roundw
        case rel => exact ⟨k + 1, by omega, by go_num, R1, R2, R3⟩
        case measure => simp [intOf]; omega
      · obtain rfl : k = n := by omega
        have e1 : l.take k = l := List.take_of_length_le (by rw [HX.out.1]; omega)
        rw [e1] at hrA hrB
        have I1 := Lib.hid (Ints.of_row hrA.out)
        have I2 := Lib.hid (Ints.of_row hrB.out)
        clear e1 hrA hrB
        go_wp2
        go_ret3
        refine ShE.mk (some ⟨w1.heap.size, 0, none⟩) p (some ⟨w1.heap.size + 1, 0, none⟩) q ?_ ?_ ?_ hext.out
        · rw [H1.out, H2.out, H0.out]; simp
        · rw [H1.out]; simpa using I1.out
        · rw [H2.out]; simpa using I2.out
  · go_loopw [27] (fun i wr => ∃ k : Nat, k ≤ n ∧ i = .int .i64 k ∧ Hid (RowV wr (w1.heap.size + 1) p (fun j => .int .i64 (shX (l.take k) j))) ∧ Hid (RowV wr (w1.heap.size) q (fun j => .int .i64 (shY (l.take k) j))) ∧ Hid (Ext w wr)) (fun i _ => n - (intOf i).toNat)
    case atStart => exact ⟨0, by omega, rfl, by
        have h := ((RowV.zeros (w1.alloc (.cells (zeroRow q) 3)) p 3).congr (f' := fun j => .int .i64 (shX (l.take 0) j)) (fun j _ => by simp [shX])).ext ((Ext.refl _).drew)
        rw [show (w1.alloc (.cells (zeroRow q) 3)).heap.size = w1.heap.size + 1 by simp] at h
        exact h, ((RowV.zeros _ _ _).ext (((Ext.refl _).alloc _).drew)).congr (fun j _ => by simp [shY]), by repeat (first | exact Ext.refl _ | assumption | refine Ext.alloc ?_ _ | refine Ext.drew ?_ | refine Ext.drewN ?_ _ | refine Ext.trans ?_ (by assumption))⟩
    case round =>
      obtain ⟨k, hk, rfl, hrA, hrB, hext⟩ := hrel
      by_cases hlt : k < n
      · obtain ⟨A1, o1, rfl, hb1, hc1, hc2⟩ := Prs.at_ HX.out hlt
        have hln := HX.out.1
        have c1 := (Below.cell (p := ⟨A1, o1 + k * 2, none⟩) hext.out hb1).trans hc1
        have c2 := (Below.cell (p := ⟨A1, o1 + k * 2 + 1, none⟩) hext.out hb1).trans hc2
        obtain ⟨u0, u1, u2, u3⟩ := HS.out k (by omega)
        have hX := fun j => shX_succ (l := l) (k := k) (by omega) j
        have hY := fun j => shY_succ (l := l) (k := k) (by omega) j
        have hbA := fun j => sh_bd (l.take k) j
        have hlt2 : (l.take k).length ≤ k := by rw [List.length_take]; omega
        clear hc1 hc2 hln
        generalize l.getD k (0, 0) = xy at *
        obtain ⟨x, y⟩ := xy
        simp only at c1 c2 u0 u1 u2 u3 hX hY
        obtain ⟨x, rfl⟩ := Int.eq_ofNat_of_zero_le u0
        obtain ⟨y, rfl⟩ := Int.eq_ofNat_of_zero_le u2
        have hx : x < p := by omega
        have hy : y < q := by omega
        have cA := hrA.out.at_ hx
        have fA := hrA.out.free hx
        have zA := hrA.out.lt
        have cB := hrB.out.at_ hy
        have fB := hrB.out.free hy
        have zB := hrB.out.lt
        have bdA := hbA x
        have bdB := hbA y
        obtain ⟨bd1, bd2, _, _⟩ := bdA
        obtain ⟨_, _, bd3, bd4⟩ := bdB
        have nA : ¬ wr.heap.size = w1.heap.size + 1 := by omega
        have nB : ¬ wr.heap.size = w1.heap.size := by omega
        have R1 := Lib.hid (show RowV (((wr.setCell ⟨w1.heap.size + 1, x, none⟩ (.int .i64 (shX (l.take k) x + 1))).setCell ⟨w1.heap.size, y, none⟩ (.int .i64 (shY (l.take k) y + 1))).alloc (.cells #[.int .i64 (x : Int), .int .i64 (y : Int)] 55)) (w1.heap.size + 1) p (fun j => .int .i64 (shX (l.take (k + 1)) j)) from
          (((hrA.out.set hx _).far (by simp) _).ext ((Ext.refl _).alloc _)).congr fun j _ => by
            rw [hX]
            by_cases e : j = x
            · subst e; simp
            · rw [if_neg e, if_neg (by omega)]; simp)
        have R2 := Lib.hid (show RowV (((wr.setCell ⟨w1.heap.size + 1, x, none⟩ (.int .i64 (shX (l.take k) x + 1))).setCell ⟨w1.heap.size, y, none⟩ (.int .i64 (shY (l.take k) y + 1))).alloc (.cells #[.int .i64 (x : Int), .int .i64 (y : Int)] 55)) (w1.heap.size) q (fun j => .int .i64 (shY (l.take (k + 1)) j)) from
          (((hrB.out.far (by simp) _).set hy _).ext ((Ext.refl _).alloc _)).congr fun j _ => by
            rw [hY]
            by_cases e : j = y
            · subst e; simp
            · rw [if_neg e, if_neg (by omega)]; simp)
        have hz0 := Below.size hq
        have R3 := Lib.hid (show Ext w (((wr.setCell ⟨w1.heap.size + 1, x, none⟩ (.int .i64 (shX (l.take k) x + 1))).setCell ⟨w1.heap.size, y, none⟩ (.int .i64 (shY (l.take k) y + 1))).alloc (.cells #[.int .i64 (x : Int), .int .i64 (y : Int)] 55)) from
          Ext.alloc (Below.setCell (Below.setCell hext.out (by simp; omega) _) (by simp; omega) _) _)
        clear hX hY hbA hrA hrB hext hz0 hq
        go_wp2
        go_roundw
        case rel => exact ⟨k + 1, by omega, by go_num, R1, R2, R3⟩
        case measure => simp [intOf]; omega
      · obtain rfl : k = n := by omega
        have e1 : l.take k = l := List.take_of_length_le (by rw [HX.out.1]; omega)
        rw [e1] at hrA hrB
        have I1 := Lib.hid (Ints.of_row hrA.out)
        have I2 := Lib.hid (Ints.of_row hrB.out)
        clear e1 hrA hrB
        go_wp2
        go_ret3
        refine ShE.mk (some ⟨w1.heap.size + 1, 0, none⟩) p (some ⟨w1.heap.size, 0, none⟩) q ?_ ?_ ?_ hext.out
        · rw [H1.out, H2.out, H0.out]; simp
        · rw [H1.out]; simpa using I1.out
        · rw [H2.out]; simpa using I2.out
end Go.Proofs.Ytepegahgiciegaa
