/- Two parts of a chart one behind the other join to the chart, and the counts of a part are those of the chart; for any chart of at most 12 rows of at most 60 cells, or too many, and a number. -/
import Derived.Test.YtjjhoonkooihjaaGreatDoorG16
import Derived.Test.YtjjhoonkooihjaaGreatDoorG12
import Derived.Test.YtjjhoonkooihjaaGreatDoorG04
import Derived.Test.YtjjhoonkooihjaaGreatDoorCards
namespace Go.Proofs.YtjjhoonkooihjaaGreatDoor
set_option maxRecDepth 100000
set_option maxRecDepth 100000
open Go.ChangeShapes Go.WideShapes Go.ChangeAt Go.RowKit Go.Joins
section
variable {H : Type} {enc : TypeId × Value → H} {w : World} {base : Nat} {spare : Nat → Bool} {held : Bool}
theorem slice_cap {P : Program} {t e : TypeId} {A : Option Addr} {n c fuel : Nat} {y : DataW H × List MemPlace} (ht : P.underlying t = some (.slice e)) (h : DataW.trod enc P w base spare held fuel t [.slice A n c] = some y) : n ≤ c := by
  rcases Go.Deep.open_slice ht h with ⟨hcs, _⟩ | ⟨a, len, cap, m, n, D, Pl, hcs, _, hl, _⟩
  · simp only [List.cons.injEq, and_true, Value.slice.injEq] at hcs
    omega
  · simp only [List.cons.injEq, and_true, Value.slice.injEq] at hcs
    omega
/-- a chart that comes in, and that its rows have room -/
theorem open_chart_argc {r : Reach} {b0 : Nat} {v : Value} {d : DataW H} {p : List MemPlace} (hv : Value.okWide Tryz.prog w r b0 24 v) (h : DataW.Trod enc Tryz.prog w base spare held 24 v d p) :
    ∃ (s : Int) (A : Option Addr) (n c : Nat) (l : List Ro), v = .agg #[.int .i64 s, .slice A n c] ∧ Rws w (fun _ => True) A n l ∧ n ≤ c := by
  obtain ⟨v0, v1, y0, y1, n, rfl, -, -, h0, h1⟩ := open_agg2 Tryz.underlying24 (by kernel_rfl) (by kernel_rfl) hv h
  obtain ⟨s, e0, -, -⟩ := DataW.trod_int Tryz.underlying3 h0
  obtain ⟨A, n, c, l, rfl, hl⟩ := open_rows_in h1
  simp at e0
  subst e0
  exact ⟨s, A, n, c, l, rfl, hl, slice_cap Tryz.underlying22 h1⟩
end
theorem cpart_c {s S : Int} {la P : List Ro} {A : Option Addr} {m c : Nat} {w : World} (i j : Int) (k q n : Nat) (hi : i = (k : Int)) (hj : j = (q : Int)) (hr : Rws w (fun _ => True) A m la) (hcap : m ≤ c) (h0 : chkC s la = 0) (hkq : k ≤ q) (hq : q ≤ la.length)
    (hS : (cntC s la).getD k 0 = S) (hP : (la.drop k).take (q - k) = P) (hn : P.length = n) :
    Calls Tryz.prog 26 #[.agg #[.int .i64 s, .slice A m c], .int .i64 i, .int .i64 j] w fun e w' => ∃ (A' : Option Addr) (c' : Nat), e = .returned (.tuple #[.agg #[.int .i64 S, .slice A' n c'], .int .i64 0]) ∧ Ext w w' ∧ Rws w' (fun b => w.heap.size ≤ b) A' n P := by
  subst hi
  subst hj
  refine (cpart_any s k q A m c la w hr hcap).mono ?_
  rintro e w' ⟨A', n', c', rfl, h1, h2⟩
  obtain ⟨e1, e2, e3⟩ := part_0 h0 hkq hq
  rw [e1, e3, hS]
  rw [e2, hP] at h2
  obtain rfl : n' = n := by rw [← h2.len]; exact hn
  exact ⟨A', c', rfl, h1, h2⟩
theorem cjoin_c {s t : Int} {la lb L : List Ro} {A B : Option Addr} {m n c d : Nat} {w : World} (k : Nat) (ha : Rws w (fun _ => True) A m la) (hb : Rws w (fun _ => True) B n lb) (hE : joinE s la t lb = 0) (hL : la ++ lb = L) (hk : L.length = k) :
    Calls Tryz.prog 27 #[.agg #[.int .i64 s, .slice A m c], .agg #[.int .i64 t, .slice B n d]] w fun e w' => ∃ (A' : Option Addr) (c' : Nat), e = .returned (.tuple #[.agg #[.int .i64 s, .slice A' k c'], .int .i64 0]) ∧ Ext w w' ∧ Rws w' (fun b => w.heap.size ≤ b) A' k L := by
  refine (cjoin_any s t A B m n c d la lb w ha hb).mono ?_
  rintro e w' ⟨A', n', c', rfl, h1, h2⟩
  rw [if_pos hE] at h2 ⊢
  rw [hE]
  rw [hL] at h2
  obtain rfl : n' = k := by rw [← h2.len]; exact hk
  exact ⟨A', c', rfl, h1, h2⟩
theorem ccounts_k {s : Int} {l : List Ro} {N : List Int} {A : Option Addr} {m c : Nat} {w : World} (k : Nat) (hr : Rws w (fun _ => True) A m l) (h0 : chkC s l = 0) (hc : cntC s l = N) (hk : l.length + 1 = k) :
    Calls Tryz.prog 17 #[.agg #[.int .i64 s, .slice A m c]] w fun e w' => ∃ (b o c' : Nat), e = .returned (.tuple #[.slice (some ⟨b, o, none⟩) k c', .int .i64 0]) ∧ Ext w w' ∧ Ints w' (some ⟨b, o, none⟩) k N ∧ k ≤ c' := by
  refine (ccounts_q s A m c l w hr).mono ?_
  rintro e w' ⟨A', n', c', rfl, h1, h2, -, h3⟩
  rw [if_pos h0] at h2
  rw [h0]
  subst hc
  obtain rfl : n' = k := by rw [← h2.1, cntC_len]; exact hk
  obtain ⟨b, o, rfl, -, -⟩ := h2.2 (by omega)
  exact ⟨b, o, c', rfl, h1, h2, h3⟩
theorem Ints.first {w : World} {A : Option Addr} {n k : Nat} {xs : List Int} (h : Ints w A n xs) (hk : k ≤ n) : Ints w A k (xs.take k) := by
  have h1 := h.1
  refine ⟨by rw [List.length_take]; omega, fun h0 => ?_⟩
  obtain ⟨b, off, e, hlt, hc⟩ := h.2 (by omega)
  refine ⟨b, off, e, hlt, fun j hj => ?_⟩
  rw [hc j (by omega), List.getD_eq_getElem?_getD, List.getD_eq_getElem?_getD, List.getElem?_take, if_pos hj]
theorem Ints.rest {w : World} {b o n k : Nat} {xs : List Int} (h : Ints w (some ⟨b, o, none⟩) n xs) (hk : k < n) : Ints w (some ⟨b, o + k, none⟩) (n - k) (xs.drop k) := by
  have h1 := h.1
  refine ⟨by rw [List.length_drop]; omega, fun h0 => ?_⟩
  obtain ⟨b', off', e, hlt, hc⟩ := h.2 (by omega)
  cases e
  refine ⟨b, o + k, rfl, hlt, fun j hj => ?_⟩
  rw [Nat.add_assoc, hc (k + j) (by omega), List.getD_eq_getElem?_getD, List.getD_eq_getElem?_getD, List.getElem?_drop]
set_option maxHeartbeats 8000000 in
theorem chartParts_walk (s : Int) (m c : Nat) (A : Option Addr) (la : List Ro) (at_ : Int) (w : World) (ha : Rws w (fun _ => True) A m la) (hcap : m ≤ c) (hg : Glob w) :
    Calls Tryz.prog 8 #[.agg #[.int .i64 s, .slice A m c], .int .i64 at_] w fun e w' => e = .returned (.bool true) ∧ Ext w w' := by
  have HA := Lib.hid ha
  have HG := Lib.hid hg
  have HL := Lib.hid ha.len
  clear ha hg
  have hB0 := Lib.hid (show Ext w (w.alloc (.cells #[.int .i64 s, .slice A m c] 24)) from (Ext.refl _).alloc _)
  have hb : Ext (w.alloc (.cells #[.int .i64 s, .slice A m c] 24)) (w.alloc (.cells #[.int .i64 s, .slice A m c] 24)) := Ext.refl _
  obtain ⟨hc, hf, hz⟩ := hb.facts
  cases hga : greatC la
  case true =>
    have HGA := Lib.hid hga
    clear hga
    go_enter Tryz.func8, Tryz.ntmps8
    go_wp2_with (first
      | (go_at_call 15; go_loud (((with_reducible refine (calive_any _ (HG.out.ext (hB0.out.trans (hb.trans (by repeat (first | exact Ext.refl _ | refine Ext.drew ?_ | refine Ext.drewN ?_ _ | refine Ext.alloc ?_ _)))))).mono ?_); rintro e w1 ⟨rfl, hq1⟩; replace hb := Ext.via hb hq1 (by repeat (first | exact Ext.refl _ | refine Ext.drew ?_ | refine Ext.drewN ?_ _ | refine Ext.alloc ?_ _)); clear hq1; obtain ⟨hc, hf, hz⟩ := hb.facts)))
      | (go_at_call 9; go_loud (((with_reducible refine (cgreat_any s A m c la _ (HA.out.ext (hB0.out.trans (hb.trans (by repeat (first | exact Ext.refl _ | refine Ext.drew ?_ | refine Ext.drewN ?_ _ | refine Ext.alloc ?_ _)))))).mono ?_); rintro e w1 ⟨rfl, hq1⟩; replace hb := Ext.via hb hq1 (by repeat (first | exact Ext.refl _ | refine Ext.drew ?_ | refine Ext.drewN ?_ _ | refine Ext.alloc ?_ _)); clear hq1; rw [HGA.out]; obtain ⟨hc, hf, hz⟩ := hb.facts))))
    go_ret
    exact ⟨rfl, hB0.out.trans hb⟩
  have HGA := Lib.hid hga
  clear hga
  by_cases h0 : chkC s la = 0
  case neg =>
    obtain ⟨x, hx⟩ : ∃ x, chkC s la = x := ⟨_, rfl⟩
    have HC0 := Lib.hid hx
    have hne : (x != 0) = true := by rw [hx] at h0; simpa using h0
    clear h0 hx
    go_enter Tryz.func8, Tryz.ntmps8
    go_wp2_with (first
      | (go_at_call 15; go_loud (((with_reducible refine (calive_any _ (HG.out.ext (hB0.out.trans (hb.trans (by repeat (first | exact Ext.refl _ | refine Ext.drew ?_ | refine Ext.drewN ?_ _ | refine Ext.alloc ?_ _)))))).mono ?_); rintro e w1 ⟨rfl, hq1⟩; replace hb := Ext.via hb hq1 (by repeat (first | exact Ext.refl _ | refine Ext.drew ?_ | refine Ext.drewN ?_ _ | refine Ext.alloc ?_ _)); clear hq1; obtain ⟨hc, hf, hz⟩ := hb.facts)))
      | (go_at_call 9; go_loud (((with_reducible refine (cgreat_any s A m c la _ (HA.out.ext (hB0.out.trans (hb.trans (by repeat (first | exact Ext.refl _ | refine Ext.drew ?_ | refine Ext.drewN ?_ _ | refine Ext.alloc ?_ _)))))).mono ?_); rintro e w1 ⟨rfl, hq1⟩; replace hb := Ext.via hb hq1 (by repeat (first | exact Ext.refl _ | refine Ext.drew ?_ | refine Ext.drewN ?_ _ | refine Ext.alloc ?_ _)); clear hq1; rw [HGA.out]; obtain ⟨hc, hf, hz⟩ := hb.facts)))
      | (go_at_call 16; go_loud (((with_reducible refine (rccheck_any s A m c la _ (HA.out.ext (hB0.out.trans (hb.trans (by repeat (first | exact Ext.refl _ | refine Ext.drew ?_ | refine Ext.drewN ?_ _ | refine Ext.alloc ?_ _)))))).mono ?_); rintro e w1 ⟨rfl, hq1⟩; replace hb := Ext.via hb hq1 (by repeat (first | exact Ext.refl _ | refine Ext.drew ?_ | refine Ext.drewN ?_ _ | refine Ext.alloc ?_ _)); clear hq1; rw [HC0.out]; obtain ⟨hc, hf, hz⟩ := hb.facts))))
    go_ret
    exact ⟨rfl, hB0.out.trans hb⟩
  have HC0 := Lib.hid h0
  by_cases h1 : at_ < 0
  case pos =>
    clear h0
    go_enter Tryz.func8, Tryz.ntmps8
    go_wp2_with (first
      | (go_at_call 15; go_loud (((with_reducible refine (calive_any _ (HG.out.ext (hB0.out.trans (hb.trans (by repeat (first | exact Ext.refl _ | refine Ext.drew ?_ | refine Ext.drewN ?_ _ | refine Ext.alloc ?_ _)))))).mono ?_); rintro e w1 ⟨rfl, hq1⟩; replace hb := Ext.via hb hq1 (by repeat (first | exact Ext.refl _ | refine Ext.drew ?_ | refine Ext.drewN ?_ _ | refine Ext.alloc ?_ _)); clear hq1; obtain ⟨hc, hf, hz⟩ := hb.facts)))
      | (go_at_call 9; go_loud (((with_reducible refine (cgreat_any s A m c la _ (HA.out.ext (hB0.out.trans (hb.trans (by repeat (first | exact Ext.refl _ | refine Ext.drew ?_ | refine Ext.drewN ?_ _ | refine Ext.alloc ?_ _)))))).mono ?_); rintro e w1 ⟨rfl, hq1⟩; replace hb := Ext.via hb hq1 (by repeat (first | exact Ext.refl _ | refine Ext.drew ?_ | refine Ext.drewN ?_ _ | refine Ext.alloc ?_ _)); clear hq1; rw [HGA.out]; obtain ⟨hc, hf, hz⟩ := hb.facts)))
      | (go_at_call 16; go_loud (((with_reducible refine (rccheck_any s A m c la _ (HA.out.ext (hB0.out.trans (hb.trans (by repeat (first | exact Ext.refl _ | refine Ext.drew ?_ | refine Ext.drewN ?_ _ | refine Ext.alloc ?_ _)))))).mono ?_); rintro e w1 ⟨rfl, hq1⟩; replace hb := Ext.via hb hq1 (by repeat (first | exact Ext.refl _ | refine Ext.drew ?_ | refine Ext.drewN ?_ _ | refine Ext.alloc ?_ _)); clear hq1; rw [HC0.out]; obtain ⟨hc, hf, hz⟩ := hb.facts))))
    go_ret
    exact ⟨rfl, hB0.out.trans hb⟩
  by_cases h2 : (m : Int) < at_
  case pos =>
    clear h0
    go_enter Tryz.func8, Tryz.ntmps8
    go_wp2_with (first
      | (go_at_call 15; go_loud (((with_reducible refine (calive_any _ (HG.out.ext (hB0.out.trans (hb.trans (by repeat (first | exact Ext.refl _ | refine Ext.drew ?_ | refine Ext.drewN ?_ _ | refine Ext.alloc ?_ _)))))).mono ?_); rintro e w1 ⟨rfl, hq1⟩; replace hb := Ext.via hb hq1 (by repeat (first | exact Ext.refl _ | refine Ext.drew ?_ | refine Ext.drewN ?_ _ | refine Ext.alloc ?_ _)); clear hq1; obtain ⟨hc, hf, hz⟩ := hb.facts)))
      | (go_at_call 9; go_loud (((with_reducible refine (cgreat_any s A m c la _ (HA.out.ext (hB0.out.trans (hb.trans (by repeat (first | exact Ext.refl _ | refine Ext.drew ?_ | refine Ext.drewN ?_ _ | refine Ext.alloc ?_ _)))))).mono ?_); rintro e w1 ⟨rfl, hq1⟩; replace hb := Ext.via hb hq1 (by repeat (first | exact Ext.refl _ | refine Ext.drew ?_ | refine Ext.drewN ?_ _ | refine Ext.alloc ?_ _)); clear hq1; rw [HGA.out]; obtain ⟨hc, hf, hz⟩ := hb.facts)))
      | (go_at_call 16; go_loud (((with_reducible refine (rccheck_any s A m c la _ (HA.out.ext (hB0.out.trans (hb.trans (by repeat (first | exact Ext.refl _ | refine Ext.drew ?_ | refine Ext.drewN ?_ _ | refine Ext.alloc ?_ _)))))).mono ?_); rintro e w1 ⟨rfl, hq1⟩; replace hb := Ext.via hb hq1 (by repeat (first | exact Ext.refl _ | refine Ext.drew ?_ | refine Ext.drewN ?_ _ | refine Ext.alloc ?_ _)); clear hq1; rw [HC0.out]; obtain ⟨hc, hf, hz⟩ := hb.facts))))
    go_ret
    exact ⟨rfl, hB0.out.trans hb⟩
  obtain ⟨k, rfl⟩ : ∃ k : Nat, at_ = (k : Int) := ⟨at_.toNat, by omega⟩
  have hkm : k ≤ m := by omega
  have hm9 : m ≤ 100 := by rw [← HL.out]; exact (chkC_ok h0).1
  have hkl : k ≤ la.length := by rw [HL.out]; exact hkm
  obtain ⟨r, hr9⟩ : ∃ r, m - k = r := ⟨_, rfl⟩
  have HKL := Lib.hid hkl
  have HML := Lib.hid (show m ≤ la.length by rw [HL.out]; exact Nat.le_refl _)
  have HL1 := Lib.hid (show la.length + 1 = m + 1 by rw [HL.out])
  obtain ⟨ha0, hb0⟩ := chk_part h0 hkl
  have hj0 := join_parts h0 hkl
  have han := cnt_takeN s la k
  have hbn := cnt_drop (s := s) hkl
  have hp1 : (la.drop 0).take (k - 0) = la.take k := rfl
  have hp2 : (la.drop k).take (m - k) = la.drop k := List.take_of_length_le (by rw [List.length_drop, HL.out]; exact Nat.le_refl _)
  have HJL := Lib.hid (List.take_append_drop k la)
  have HP1L := Lib.hid (show (la.take k).length = k by rw [List.length_take]; omega)
  have HP2L := Lib.hid (show (la.drop k).length = r by rw [List.length_drop, HL.out]; exact hr9)
  have HC9 := Lib.hid (show (cntC s la).getD 0 0 = s from rfl)
  have HAL := Lib.hid (show (la.take k).length + 1 = k + 1 by rw [HP1L.out])
  have HBL := Lib.hid (show (la.drop k).length + 1 = r + 1 by rw [HP2L.out])
  obtain ⟨P1, hP1⟩ : ∃ P, la.take k = P := ⟨_, rfl⟩
  obtain ⟨P2, hP2⟩ : ∃ P, la.drop k = P := ⟨_, rfl⟩
  replace hp1 := hp1.trans hP1
  replace hp2 := hp2.trans hP2
  rw [hP1] at ha0 hj0 han HJL HP1L HAL
  rw [hP2] at hb0 hj0 hbn HJL HP2L HBL
  obtain ⟨S, hS⟩ : ∃ S, (cntC s la).getD k 0 = S := ⟨_, rfl⟩
  obtain ⟨N, hN⟩ : ∃ N, cntC s la = N := ⟨_, rfl⟩
  rw [hS] at hb0 hj0 hbn
  rw [hN] at han hbn
  have HCK := Lib.hid hS
  have HCN := Lib.hid hN
  have HP1 := Lib.hid hp1
  have HP2 := Lib.hid hp2
  have HJ := Lib.hid hj0
  have HA0 := Lib.hid ha0
  have HB0 := Lib.hid hb0
  have HAN := Lib.hid han
  have HBN := Lib.hid hbn
  clear h0 ha0 hb0 hj0 han hbn hp1 hp2 hS hN hkl hP1 hP2
  have q1 : (0 : Int) ≤ (k : Int) := by omega
  have q2 : (k : Int) ≤ (m : Int) := by omega
  have q3 := IntWalk.i64_in ((k : Int) + 1) (by omega)
  have q4 := IntWalk.i64_in ((m : Int) + 1) (by omega)
  have q5 : (0 : Int) ≤ (k : Int) + 1 := by omega
  have q10 : (k : Int) ≤ (m : Int) + 1 := by omega
  go_enter Tryz.func8, Tryz.ntmps8
  go_wp2_with (first
    | (go_at_call 15; go_loud (((with_reducible refine (calive_any _ (HG.out.ext (hB0.out.trans (hb.trans (by repeat (first | exact Ext.refl _ | refine Ext.drew ?_ | refine Ext.drewN ?_ _ | refine Ext.alloc ?_ _)))))).mono ?_); rintro e w1 ⟨rfl, hq1⟩; replace hb := Ext.via hb hq1 (by repeat (first | exact Ext.refl _ | refine Ext.drew ?_ | refine Ext.drewN ?_ _ | refine Ext.alloc ?_ _)); clear hq1; obtain ⟨hc, hf, hz⟩ := hb.facts)))
    | (go_at_call 9; go_loud (((with_reducible refine (cgreat_any s A m c la _ (HA.out.ext (hB0.out.trans (hb.trans (by repeat (first | exact Ext.refl _ | refine Ext.drew ?_ | refine Ext.drewN ?_ _ | refine Ext.alloc ?_ _)))))).mono ?_); rintro e w1 ⟨rfl, hq1⟩; replace hb := Ext.via hb hq1 (by repeat (first | exact Ext.refl _ | refine Ext.drew ?_ | refine Ext.drewN ?_ _ | refine Ext.alloc ?_ _)); clear hq1; rw [HGA.out]; obtain ⟨hc, hf, hz⟩ := hb.facts)))
    | (go_at_call 16; go_loud (((with_reducible refine (rccheck_any s A m c la _ (HA.out.ext (hB0.out.trans (hb.trans (by repeat (first | exact Ext.refl _ | refine Ext.drew ?_ | refine Ext.drewN ?_ _ | refine Ext.alloc ?_ _)))))).mono ?_); rintro e w1 ⟨rfl, hq1⟩; replace hb := Ext.via hb hq1 (by repeat (first | exact Ext.refl _ | refine Ext.drew ?_ | refine Ext.drewN ?_ _ | refine Ext.alloc ?_ _)); clear hq1; rw [HC0.out]; obtain ⟨hc, hf, hz⟩ := hb.facts)))
    | (go_at_call 26; (first | ((with_reducible refine (cpart_c (k : Int) (m : Int) k m r rfl rfl (HA.out.ext (hB0.out.trans (hb.trans (by repeat (first | exact Ext.refl _ | refine Ext.drew ?_ | refine Ext.drewN ?_ _ | refine Ext.alloc ?_ _))))) hcap HC0.out hkm HML.out HCK.out HP2.out HP2L.out).mono ?_); rintro e w3 ⟨A3, c3, rfl, hq1, hr⟩; replace HRa := Lib.hid (HRa.out.ext (Ext.trans (by repeat (first | exact Ext.refl _ | refine Ext.drew ?_ | refine Ext.drewN ?_ _ | refine Ext.alloc ?_ _)) hq1)); replace HXa := Lib.hid (HXa.out.ext (Ext.trans (by repeat (first | exact Ext.refl _ | refine Ext.drew ?_ | refine Ext.drewN ?_ _ | refine Ext.alloc ?_ _)) hq1)); replace hb := Ext.via hb hq1 (by repeat (first | exact Ext.refl _ | refine Ext.drew ?_ | refine Ext.drewN ?_ _ | refine Ext.alloc ?_ _)); obtain ⟨hc, hf, hz⟩ := hb.facts; obtain ⟨k0HXa, k1HXa, k2HXa⟩ := HXa.out; have HRb := Lib.hid (hr.any.ext ((Ext.refl _).alloc (.cells #[.int .i64 S, .slice A3 r c3] 24))); have HXb := Lib.hid (BoxAt.new_ w3 S (.slice A3 r c3) 24); clear hr; clear hq1) | (go_loud ((with_reducible refine (cpart_c 0 (k : Int) 0 k k rfl rfl (HA.out.ext (hB0.out.trans (hb.trans (by repeat (first | exact Ext.refl _ | refine Ext.drew ?_ | refine Ext.drewN ?_ _ | refine Ext.alloc ?_ _))))) hcap HC0.out (Nat.zero_le _) HKL.out HC9.out HP1.out HP1L.out).mono ?_); rintro e w2 ⟨A2, c2, rfl, hq1, hr⟩; replace hb := Ext.via hb hq1 (by repeat (first | exact Ext.refl _ | refine Ext.drew ?_ | refine Ext.drewN ?_ _ | refine Ext.alloc ?_ _)); obtain ⟨hc, hf, hz⟩ := hb.facts; have HRa := Lib.hid (hr.any.ext ((Ext.refl _).alloc (.cells #[.int .i64 s, .slice A2 k c2] 24))); have HXa := Lib.hid (BoxAt.new_ w2 s (.slice A2 k c2) 24); clear hr; clear hq1))))
    | (go_at_call 27; (first | (go_loud ((with_reducible refine (cjoin_c m (HRa.out.ext (by repeat (first | exact Ext.refl _ | refine Ext.drew ?_ | refine Ext.drewN ?_ _ | refine Ext.alloc ?_ _))) (HRb.out.ext (by repeat (first | exact Ext.refl _ | refine Ext.drew ?_ | refine Ext.drewN ?_ _ | refine Ext.alloc ?_ _))) HJ.out HJL.out HL.out).mono ?_); rintro e w4 ⟨A4, c4, rfl, hq1, hr⟩; replace HRa := Lib.hid (HRa.out.ext (Ext.trans (by repeat (first | exact Ext.refl _ | refine Ext.drew ?_ | refine Ext.drewN ?_ _ | refine Ext.alloc ?_ _)) hq1)); replace HXa := Lib.hid (HXa.out.ext (Ext.trans (by repeat (first | exact Ext.refl _ | refine Ext.drew ?_ | refine Ext.drewN ?_ _ | refine Ext.alloc ?_ _)) hq1)); replace HRb := Lib.hid (HRb.out.ext (Ext.trans (by repeat (first | exact Ext.refl _ | refine Ext.drew ?_ | refine Ext.drewN ?_ _ | refine Ext.alloc ?_ _)) hq1)); replace HXb := Lib.hid (HXb.out.ext (Ext.trans (by repeat (first | exact Ext.refl _ | refine Ext.drew ?_ | refine Ext.drewN ?_ _ | refine Ext.alloc ?_ _)) hq1)); replace hb := Ext.via hb hq1 (by repeat (first | exact Ext.refl _ | refine Ext.drew ?_ | refine Ext.drewN ?_ _ | refine Ext.alloc ?_ _)); obtain ⟨hc, hf, hz⟩ := hb.facts; obtain ⟨k0HXa, k1HXa, k2HXa⟩ := HXa.out; obtain ⟨k0HXb, k1HXb, k2HXb⟩ := HXb.out; have HRd := Lib.hid (hr.any.ext ((Ext.refl _).alloc (.cells #[.int .i64 s, .slice A4 m c4] 24))); have HXd := Lib.hid (BoxAt.new_ w4 s (.slice A4 m c4) 24); clear hr; clear hq1))))
    | (go_at_call 17; (first | ((with_reducible refine (ccounts_c (r + 1) (HRb.out.ext (by repeat (first | exact Ext.refl _ | refine Ext.drew ?_ | refine Ext.drewN ?_ _ | refine Ext.alloc ?_ _))) HB0.out HBN.out HBL.out).mono ?_); rintro e w7 ⟨A7, c7, rfl, hq1, hv⟩; replace HRa := Lib.hid (HRa.out.ext (Ext.trans (by repeat (first | exact Ext.refl _ | refine Ext.drew ?_ | refine Ext.drewN ?_ _ | refine Ext.alloc ?_ _)) hq1)); replace HXa := Lib.hid (HXa.out.ext (Ext.trans (by repeat (first | exact Ext.refl _ | refine Ext.drew ?_ | refine Ext.drewN ?_ _ | refine Ext.alloc ?_ _)) hq1)); replace HRb := Lib.hid (HRb.out.ext (Ext.trans (by repeat (first | exact Ext.refl _ | refine Ext.drew ?_ | refine Ext.drewN ?_ _ | refine Ext.alloc ?_ _)) hq1)); replace HXb := Lib.hid (HXb.out.ext (Ext.trans (by repeat (first | exact Ext.refl _ | refine Ext.drew ?_ | refine Ext.drewN ?_ _ | refine Ext.alloc ?_ _)) hq1)); replace HRd := Lib.hid (HRd.out.ext (Ext.trans (by repeat (first | exact Ext.refl _ | refine Ext.drew ?_ | refine Ext.drewN ?_ _ | refine Ext.alloc ?_ _)) hq1)); replace HXd := Lib.hid (HXd.out.ext (Ext.trans (by repeat (first | exact Ext.refl _ | refine Ext.drew ?_ | refine Ext.drewN ?_ _ | refine Ext.alloc ?_ _)) hq1)); replace HN1 := Lib.hid (HN1.out.ext (Ext.trans (by repeat (first | exact Ext.refl _ | refine Ext.drew ?_ | refine Ext.drewN ?_ _ | refine Ext.alloc ?_ _)) hq1)); replace HN2 := Lib.hid (HN2.out.ext (Ext.trans (by repeat (first | exact Ext.refl _ | refine Ext.drew ?_ | refine Ext.drewN ?_ _ | refine Ext.alloc ?_ _)) hq1)); replace hb := Ext.via hb hq1 (by repeat (first | exact Ext.refl _ | refine Ext.drew ?_ | refine Ext.drewN ?_ _ | refine Ext.alloc ?_ _)); obtain ⟨hc, hf, hz⟩ := hb.facts; obtain ⟨k0HXa, k1HXa, k2HXa⟩ := HXa.out; obtain ⟨k0HXb, k1HXb, k2HXb⟩ := HXb.out; obtain ⟨k0HXd, k1HXd, k2HXd⟩ := HXd.out; have HN3 := Lib.hid hv; clear hv; clear hq1) | ((with_reducible refine (ccounts_c (k + 1) (HRa.out.ext (by repeat (first | exact Ext.refl _ | refine Ext.drew ?_ | refine Ext.drewN ?_ _ | refine Ext.alloc ?_ _))) HA0.out HAN.out HAL.out).mono ?_); rintro e w6 ⟨A6, c6, rfl, hq1, hv⟩; replace HRa := Lib.hid (HRa.out.ext (Ext.trans (by repeat (first | exact Ext.refl _ | refine Ext.drew ?_ | refine Ext.drewN ?_ _ | refine Ext.alloc ?_ _)) hq1)); replace HXa := Lib.hid (HXa.out.ext (Ext.trans (by repeat (first | exact Ext.refl _ | refine Ext.drew ?_ | refine Ext.drewN ?_ _ | refine Ext.alloc ?_ _)) hq1)); replace HRb := Lib.hid (HRb.out.ext (Ext.trans (by repeat (first | exact Ext.refl _ | refine Ext.drew ?_ | refine Ext.drewN ?_ _ | refine Ext.alloc ?_ _)) hq1)); replace HXb := Lib.hid (HXb.out.ext (Ext.trans (by repeat (first | exact Ext.refl _ | refine Ext.drew ?_ | refine Ext.drewN ?_ _ | refine Ext.alloc ?_ _)) hq1)); replace HRd := Lib.hid (HRd.out.ext (Ext.trans (by repeat (first | exact Ext.refl _ | refine Ext.drew ?_ | refine Ext.drewN ?_ _ | refine Ext.alloc ?_ _)) hq1)); replace HXd := Lib.hid (HXd.out.ext (Ext.trans (by repeat (first | exact Ext.refl _ | refine Ext.drew ?_ | refine Ext.drewN ?_ _ | refine Ext.alloc ?_ _)) hq1)); replace HN1 := Lib.hid (HN1.out.ext (Ext.trans (by repeat (first | exact Ext.refl _ | refine Ext.drew ?_ | refine Ext.drewN ?_ _ | refine Ext.alloc ?_ _)) hq1)); replace hb := Ext.via hb hq1 (by repeat (first | exact Ext.refl _ | refine Ext.drew ?_ | refine Ext.drewN ?_ _ | refine Ext.alloc ?_ _)); obtain ⟨hc, hf, hz⟩ := hb.facts; obtain ⟨k0HXa, k1HXa, k2HXa⟩ := HXa.out; obtain ⟨k0HXb, k1HXb, k2HXb⟩ := HXb.out; obtain ⟨k0HXd, k1HXd, k2HXd⟩ := HXd.out; have HN2 := Lib.hid hv; clear hv; clear hq1) | (go_loud ((with_reducible refine (ccounts_k (m + 1) (HA.out.ext (hB0.out.trans (hb.trans (by repeat (first | exact Ext.refl _ | refine Ext.drew ?_ | refine Ext.drewN ?_ _ | refine Ext.alloc ?_ _))))) HC0.out HCN.out HL1.out).mono ?_); rintro e w5 ⟨b1, o1, c5, rfl, hq1, hv, hcp⟩; replace HRa := Lib.hid (HRa.out.ext (Ext.trans (by repeat (first | exact Ext.refl _ | refine Ext.drew ?_ | refine Ext.drewN ?_ _ | refine Ext.alloc ?_ _)) hq1)); replace HXa := Lib.hid (HXa.out.ext (Ext.trans (by repeat (first | exact Ext.refl _ | refine Ext.drew ?_ | refine Ext.drewN ?_ _ | refine Ext.alloc ?_ _)) hq1)); replace HRb := Lib.hid (HRb.out.ext (Ext.trans (by repeat (first | exact Ext.refl _ | refine Ext.drew ?_ | refine Ext.drewN ?_ _ | refine Ext.alloc ?_ _)) hq1)); replace HXb := Lib.hid (HXb.out.ext (Ext.trans (by repeat (first | exact Ext.refl _ | refine Ext.drew ?_ | refine Ext.drewN ?_ _ | refine Ext.alloc ?_ _)) hq1)); replace HRd := Lib.hid (HRd.out.ext (Ext.trans (by repeat (first | exact Ext.refl _ | refine Ext.drew ?_ | refine Ext.drewN ?_ _ | refine Ext.alloc ?_ _)) hq1)); replace HXd := Lib.hid (HXd.out.ext (Ext.trans (by repeat (first | exact Ext.refl _ | refine Ext.drew ?_ | refine Ext.drewN ?_ _ | refine Ext.alloc ?_ _)) hq1)); replace hb := Ext.via hb hq1 (by repeat (first | exact Ext.refl _ | refine Ext.drew ?_ | refine Ext.drewN ?_ _ | refine Ext.alloc ?_ _)); obtain ⟨hc, hf, hz⟩ := hb.facts; obtain ⟨k0HXa, k1HXa, k2HXa⟩ := HXa.out; obtain ⟨k0HXb, k1HXb, k2HXb⟩ := HXb.out; obtain ⟨k0HXd, k1HXd, k2HXd⟩ := HXd.out; have HN1 := Lib.hid hv; clear hv; have q6 : (k : Int) + 1 ≤ (c5 : Int) := (by omega); have q7 : (k : Int) ≤ (c5 : Int) := (by omega); have q8 : ¬ (c5 = k) := (by omega); have q9 : (m : Int) + 1 ≤ (c5 : Int) := (by omega); clear hq1))))
    | (go_at_call 14; (first | (go_loud ((with_reducible refine (rcsame_any s s _ _ m m _ _ la la _ (HA.out.ext (hB0.out.trans (hb.trans (by repeat (first | exact Ext.refl _ | refine Ext.drew ?_ | refine Ext.drewN ?_ _ | refine Ext.alloc ?_ _))))) (HRd.out.ext (by repeat (first | exact Ext.refl _ | refine Ext.drew ?_ | refine Ext.drewN ?_ _ | refine Ext.alloc ?_ _)))).mono ?_); rintro e w8 ⟨rfl, hq1⟩; replace HRa := Lib.hid (HRa.out.ext (Ext.trans (by repeat (first | exact Ext.refl _ | refine Ext.drew ?_ | refine Ext.drewN ?_ _ | refine Ext.alloc ?_ _)) hq1)); replace HXa := Lib.hid (HXa.out.ext (Ext.trans (by repeat (first | exact Ext.refl _ | refine Ext.drew ?_ | refine Ext.drewN ?_ _ | refine Ext.alloc ?_ _)) hq1)); replace HRb := Lib.hid (HRb.out.ext (Ext.trans (by repeat (first | exact Ext.refl _ | refine Ext.drew ?_ | refine Ext.drewN ?_ _ | refine Ext.alloc ?_ _)) hq1)); replace HXb := Lib.hid (HXb.out.ext (Ext.trans (by repeat (first | exact Ext.refl _ | refine Ext.drew ?_ | refine Ext.drewN ?_ _ | refine Ext.alloc ?_ _)) hq1)); replace HRd := Lib.hid (HRd.out.ext (Ext.trans (by repeat (first | exact Ext.refl _ | refine Ext.drew ?_ | refine Ext.drewN ?_ _ | refine Ext.alloc ?_ _)) hq1)); replace HXd := Lib.hid (HXd.out.ext (Ext.trans (by repeat (first | exact Ext.refl _ | refine Ext.drew ?_ | refine Ext.drewN ?_ _ | refine Ext.alloc ?_ _)) hq1)); replace HN1 := Lib.hid (HN1.out.ext (Ext.trans (by repeat (first | exact Ext.refl _ | refine Ext.drew ?_ | refine Ext.drewN ?_ _ | refine Ext.alloc ?_ _)) hq1)); replace HN2 := Lib.hid (HN2.out.ext (Ext.trans (by repeat (first | exact Ext.refl _ | refine Ext.drew ?_ | refine Ext.drewN ?_ _ | refine Ext.alloc ?_ _)) hq1)); replace HN3 := Lib.hid (HN3.out.ext (Ext.trans (by repeat (first | exact Ext.refl _ | refine Ext.drew ?_ | refine Ext.drewN ?_ _ | refine Ext.alloc ?_ _)) hq1)); replace hb := Ext.via hb hq1 (by repeat (first | exact Ext.refl _ | refine Ext.drew ?_ | refine Ext.drewN ?_ _ | refine Ext.alloc ?_ _)); obtain ⟨hc, hf, hz⟩ := hb.facts; obtain ⟨k0HXa, k1HXa, k2HXa⟩ := HXa.out; obtain ⟨k0HXb, k1HXb, k2HXb⟩ := HXb.out; obtain ⟨k0HXd, k1HXd, k2HXd⟩ := HXd.out; rw [sameC_yes]; clear hq1))))
    | (go_at_call 22; (first | ((with_reducible refine (sameints_any (k + 1) (k + 1) _ _ _ _ (N.take (k + 1)) _ (HN2.out.ext (by repeat (first | exact Ext.refl _ | refine Ext.drew ?_ | refine Ext.drewN ?_ _ | refine Ext.alloc ?_ _))) (Ints.first ((HN1.out.ext (by repeat (first | exact Ext.refl _ | refine Ext.drew ?_ | refine Ext.drewN ?_ _ | refine Ext.alloc ?_ _)))) (by omega)) (by unfold maxLen; omega)).mono ?_); rintro e w9 ⟨rfl, hq1⟩; replace HN1 := Lib.hid (HN1.out.ext (Ext.trans (by repeat (first | exact Ext.refl _ | refine Ext.drew ?_ | refine Ext.drewN ?_ _ | refine Ext.alloc ?_ _)) hq1)); replace HN3 := Lib.hid (HN3.out.ext (Ext.trans (by repeat (first | exact Ext.refl _ | refine Ext.drew ?_ | refine Ext.drewN ?_ _ | refine Ext.alloc ?_ _)) hq1)); replace hb := Ext.via hb hq1 (by repeat (first | exact Ext.refl _ | refine Ext.drew ?_ | refine Ext.drewN ?_ _ | refine Ext.alloc ?_ _)); obtain ⟨hc, hf, hz⟩ := hb.facts; clear hq1) | (go_loud ((with_reducible refine (sameints_any (r + 1) _ _ _ _ _ (N.drop k) _ (HN3.out.ext (by repeat (first | exact Ext.refl _ | refine Ext.drew ?_ | refine Ext.drewN ?_ _ | refine Ext.alloc ?_ _))) (Ints.rest ((HN1.out.ext (by repeat (first | exact Ext.refl _ | refine Ext.drew ?_ | refine Ext.drewN ?_ _ | refine Ext.alloc ?_ _)))) (by omega)) (by unfold maxLen; omega)).mono ?_); rintro e w10 ⟨rfl, hq1⟩; replace HN1 := Lib.hid (HN1.out.ext (Ext.trans (by repeat (first | exact Ext.refl _ | refine Ext.drew ?_ | refine Ext.drewN ?_ _ | refine Ext.alloc ?_ _)) hq1)); replace hb := Ext.via hb hq1 (by repeat (first | exact Ext.refl _ | refine Ext.drew ?_ | refine Ext.drewN ?_ _ | refine Ext.alloc ?_ _)); obtain ⟨hc, hf, hz⟩ := hb.facts; clear hq1)))))
  go_ret
  exact ⟨rfl, hB0.out.trans hb⟩

set_option maxRecDepth 100000 in
theorem chartParts_lifted (os : Os) (started : os.Started) (H : Type) (enc : TypeId × Value → H) :
    ReturnsInHanded {} Tryz.checked os 8 .any (fun w args => (Rows.chartPartsSpec.pre enc Tryz.prog Tryz.f8 [] false w args ∧ laidMetH Tryz.prog [("math/bits.deBruijn32tab", Rows.laid_math_bits_deBruijn32tab), ("math/bits.deBruijn64tab", Rows.laid_math_bits_deBruijn64tab), ("internal/strconv.uint64pow10", Rows.laid_internal_strconv_uint64pow10), ("unicode/utf8.acceptRanges", Rows.laid_unicode_utf8_acceptRanges), ("strconv.ErrRange", Rows.laid_strconv_ErrRange), ("strconv.ErrSyntax", Rows.laid_strconv_ErrSyntax), ("unicode/utf8.first", Rows.laid_unicode_utf8_first)] w) ∧ sizedMet enc Tryz.prog Tryz.f8 (OpenSpec.ofChange Rows.chartPartsSpec) false w args)
      (Rows.chartPartsSpec.post enc Tryz.prog Tryz.f8 false true false false) := by
  refine returns_laid (C := Tryz.checked) (X := fun w _ => laidMetH Tryz.prog [("math/bits.deBruijn32tab", Rows.laid_math_bits_deBruijn32tab), ("math/bits.deBruijn64tab", Rows.laid_math_bits_deBruijn64tab), ("internal/strconv.uint64pow10", Rows.laid_internal_strconv_uint64pow10), ("unicode/utf8.acceptRanges", Rows.laid_unicode_utf8_acceptRanges), ("strconv.ErrRange", Rows.laid_strconv_ErrRange), ("strconv.ErrSyntax", Rows.laid_strconv_ErrSyntax), ("unicode/utf8.first", Rows.laid_unicode_utf8_first)] w) (fun _ _ _ hh h => h.of_heap hh) own started (by kernel_rfl) Tryz.func8
    (ChangeSpec.witness_shaped (enc := enc) (C := Tryz.checked) (os := os) (X := fun w _ => laidMetH Tryz.prog [("math/bits.deBruijn32tab", Rows.laid_math_bits_deBruijn32tab), ("math/bits.deBruijn64tab", Rows.laid_math_bits_deBruijn64tab), ("internal/strconv.uint64pow10", Rows.laid_internal_strconv_uint64pow10), ("unicode/utf8.acceptRanges", Rows.laid_unicode_utf8_acceptRanges), ("strconv.ErrRange", Rows.laid_strconv_ErrRange), ("strconv.ErrSyntax", Rows.laid_strconv_ErrSyntax), ("unicode/utf8.first", Rows.laid_unicode_utf8_first)] w) false (World.laidAll Tryz.prog os [("math/bits.deBruijn32tab", Rows.laid_math_bits_deBruijn32tab), ("math/bits.deBruijn64tab", Rows.laid_math_bits_deBruijn64tab), ("internal/strconv.uint64pow10", Rows.laid_internal_strconv_uint64pow10), ("unicode/utf8.acceptRanges", Rows.laid_unicode_utf8_acceptRanges), ("strconv.ErrRange", Rows.laid_strconv_ErrRange), ("strconv.ErrSyntax", Rows.laid_strconv_ErrSyntax), ("unicode/utf8.first", Rows.laid_unicode_utf8_first)]) #[.agg #[.int .i64 0, .slice none 0 0], .int .i64 0] 8 (World.laidAll_os _ _ _)
      (World.shaped_of_ZipB (by kernel_rfl) (by kernel_rfl)) (by kernel_rfl) (by kernel_rfl) (by kernel_rfl)
      (by rw [MakeChecks.laidMetH_plain _ _ _ (by kernel_rfl)]; exact laidMet_laidAll _ (by kernel_rfl) (by kernel_rfl))) ?_
  intro W base args ds gs before hval0 hW hL hsh
  have hval : ∀ (j : Nat) t v, Tryz.f8.params[j]? = some t → args[j]? = some v → Value.okWide Tryz.prog W .any base t v := hval0
  have hW' := hW
  obtain ⟨p, q, hA0, hV, rfl, hfz, hnd⟩ := hW
  have hA : DataW.TrodAll enc Tryz.prog W 0 (fun _ => true) true Tryz.f8.params.toList args.toList ds p := hA0
  rw [Tryz.params8] at hA hval
  obtain ⟨v0, vs0, d0, ds0, p0, q0, hargs, rfl, rfl, h0, r0⟩ := trodAll_cons hA
  obtain ⟨v1, vs1, d1, ds1, p1, q1, rfl, rfl, rfl, h1, r1⟩ := trodAll_cons r0
  obtain ⟨rfl, rfl, rfl⟩ := trodAll_nil r1
  obtain rfl : args = #[v0, v1] := by cases args; simp_all
  obtain ⟨rfl, rfl⟩ := trodVars_none hV
  obtain ⟨sa, Aa, na, ca, a, rfl, hia, hma⟩ := open_chart_argc (hval 0 24 v0 rfl rfl) h0
  obtain ⟨at_, rfl, rfl, -, -⟩ := open_int Tryz.underlying3 (hval 1 3 v1 rfl rfl) h1
  rw [MakeChecks.laidMetH_plain _ _ _ (by kernel_rfl)] at hL
  have hG := glob_of hL hsh
  refine (chartParts_walk sa na ca Aa a at_ W hia hma hG).mono fun e W' ⟨he, hg⟩ => ?_
  subst he
  exact ⟨_, rfl, law_post laid_out rfl Tryz.underlying4 (by kernel_rfl) rfl hW' rfl hg⟩

theorem chartParts_holds : Rows.ChartPartsSaid :=
  OpenClaim.holds_of_wide 8 Tryz.f8 rfl rfl rfl rfl rfl rfl rfl ⟨rfl, rfl, rfl, rfl, rfl⟩ rfl rfl rfl rfl rfl (by kernel_rfl) Tryz.func8 (by kernel_rfl)
    (of_decide_eq_true (by kernel_rfl)) (by unfold Func.isWrapper; first | (rw [if_pos (by decide +kernel)]; kernel_rfl) | (rw [if_neg (by decide +kernel)]; exact ⟨rfl, rfl⟩))
    (fun os started H enc _ => chartParts_lifted os started H enc)

theorem chartParts_card : Rows.ChartPartsCardSaid :=
  Claim7.holds_tied_plain_at .later [] [.data, .data, .data, .data, .sentinel, .sentinel, .pinned] true (true, "39bfa126c88c4eab7a3d93e3b80aed671d612458207461505dfa1022f9959405") true
    chartParts_holds (fun _ h => by cases h) (by kernel_rfl) (fun _ h => by cases h) chartParts_row_tie rfl ⟨rfl, rfl⟩ (by kernel_rfl) rfl
    (fun f fn hf hfn => by
      obtain rfl : f = 8 := Option.some.inj ((show Tryz.prog.funcNamed "raddle/raddlelaw26.ChartParts" = some 8 by kernel_rfl).symm.trans hf) |>.symm
      obtain rfl : fn = Tryz.f8 := (Option.some.inj (Tryz.func8.symm.trans hfn)).symm
      exact ⟨by kernel_rfl, fun j t ht => by
        rw [Tryz.params8] at ht
        have hm : t ∈ [24, 3] := by simpa using Array.mem_of_getElem? ht
        have hall : ([24, 3].all fun u => !Tryz.prog.wantsStandIn u) = true := by kernel_rfl
        exact (show Tryz.prog.wantsStandIn t = false by simpa using List.all_eq_true.1 hall t hm)⟩)
    (by kernel_rfl)
end Go.Proofs.YtjjhoonkooihjaaGreatDoor
