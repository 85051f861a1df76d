/- Section: the program's and the reference's. -/
import Derived.Test.YtfhecgipfhhchaaPtG
import Derived.Test.YtfhecgipfhhchaaPtE
import Derived.Test.YtfhecgipfhhchaaFaceD
namespace Go.Proofs.Ytfhecgipfhhchaa
set_option maxRecDepth 100000
set_option maxRecDepth 100000
open Go.RowKit Go.ChangeShapes Go.WideShapes Go.Joins
theorem idx_cases {g : Nat → List UInt8} {x : List UInt8} : ∀ (n k : Nat), idxN g x n k = -1 ∨ ∃ j : Nat, k ≤ j ∧ j < k + n ∧ idxN g x n k = (j : Int) := by
  intro n
  induction n with
  | zero => intro k; exact .inl rfl
  | succ n ih =>
    intro k
    rw [idxN]
    by_cases h : g k = x
    · rw [if_pos h]; exact .inr ⟨k, Nat.le_refl _, by omega, rfl⟩
    · rw [if_neg h]
      rcases ih (k + 1) with h1 | ⟨j, h1, h2, h3⟩
      · exact .inl h1
      · exact .inr ⟨j, by omega, by omega, h3⟩
theorem idx_congr {g h : Nat → List UInt8} {x : List UInt8} : ∀ (n k : Nat), (∀ j, k ≤ j → j < k + n → g j = h j) → idxN g x n k = idxN h x n k := by
  intro n
  induction n with
  | zero => intro k _; rfl
  | succ n ih =>
    intro k hj
    rw [idxN, idxN, hj k (Nat.le_refl _) (by omega), ih (k + 1) (fun j h1 h2 => hj j (by omega) (by omega))]
def secI (se : List Sec) (name : List UInt8) : Int := idxN (seN se) name se.length 0
def secE (nm : List UInt8) (ge : Int) (st : List Stf) (se : List Sec) (name : List UInt8) : Int := if patE nm ge st se ≠ 0 then patE nm ge st se else if secI se name < 0 then 6 else 0
def secS (nm : List UInt8) (ge : Int) (st : List Stf) (se : List Sec) (name : List UInt8) : Int := if secE nm ge st se name = 0 then (se.getD (secI se name).toNat sec0).s else 0
def secL (nm : List UInt8) (ge : Int) (st : List Stf) (se : List Sec) (name : List UInt8) : List Ro := if secE nm ge st se name = 0 then (se.getD (secI se name).toNat sec0).rows else []
section
variable {nm name : List UInt8} {ge x : Int} {st : List Stf} {se : List Sec}
theorem sec_1 (h : patE nm ge st se = x) (h0 : x ≠ 0) : secE nm ge st se name = x ∧ secS nm ge st se name = 0 ∧ secL nm ge st se name = [] := by
  have h1 : secE nm ge st se name = x := by rw [secE, if_pos (by rw [h]; exact h0), h]
  exact ⟨h1, by rw [secS, if_neg (by rw [h1]; exact h0)], by rw [secL, if_neg (by rw [h1]; exact h0)]⟩
theorem sec_2 (h : patE nm ge st se = 0) (hi : secI se name = -1) : secE nm ge st se name = 6 ∧ secS nm ge st se name = 0 ∧ secL nm ge st se name = [] := by
  have h1 : secE nm ge st se name = 6 := by rw [secE, if_neg (fun h9 => h9 h), if_pos (by rw [hi]; omega)]
  exact ⟨h1, by rw [secS, if_neg (by rw [h1]; decide)], by rw [secL, if_neg (by rw [h1]; decide)]⟩
theorem sec_3 {k : Nat} (h : patE nm ge st se = 0) (hi : secI se name = (k : Int)) : secE nm ge st se name = 0 ∧ secS nm ge st se name = (se.getD k sec0).s ∧ secL nm ge st se name = (se.getD k sec0).rows := by
  have h1 : secE nm ge st se name = 0 := by rw [secE, if_neg (fun h9 => h9 h), if_neg (by rw [hi]; omega)]
  exact ⟨h1, by rw [secS, if_pos h1, hi, Int.toNat_natCast], by rw [secL, if_pos h1, hi, Int.toNat_natCast]⟩
end
/-- a chart and an error -/
def SecR (s : Int) (l : List Ro) (x : Int) (w : World) (e : Ending) (w' : World) : Prop := ∃ (A : Option Addr) (n c : Nat), e = .returned (.tuple #[.agg #[.int .i64 s, .slice A n c], .int .i64 x]) ∧ Ext w w' ∧ Rws w' (fun _ => True) A n l
theorem BoxC.free {w : World} {b : Nat} {s : Int} {A : Option Addr} {n c : Nat} (h : BoxC w b s A n c) (j : Nat) : w.frozen? ⟨b, j, none⟩ = false := frozen_of_row w b j _ _ h
theorem BoxC.second (w : World) (o : Obj) : BoxC ((w.alloc o).alloc (.cells #[.int .i64 0, .slice none 0 0] 31)) (w.heap.size + 1) 0 none 0 0 := by
  have h := BoxC.start (w.alloc o) 0 none 0 0
  have e : (w.alloc o).heap.size = w.heap.size + 1 := by simp
  rw [e] at h
  exact h
/-- the world behind the store of the result -/
theorem sec_end {w w5 : World} {s : Int} {A : Option Addr} {n c : Nat} {l : List Ro} (hb : BoxC w5 (w.heap.size + 1) 0 none 0 0) (hx : Ext w w5) (hr : Rws w5 (fun b => w.heap.size + 2 ≤ b) A n l) :
    Ext w ((w5.setCell ⟨w.heap.size + 1, 0, none⟩ (.int .i64 s)).setCell ⟨w.heap.size + 1, 1, none⟩ (.slice A n c)) ∧ Rws ((w5.setCell ⟨w.heap.size + 1, 0, none⟩ (.int .i64 s)).setCell ⟨w.heap.size + 1, 1, none⟩ (.slice A n c)) (fun _ => True) A n l ∧
      (w5.setCell ⟨w.heap.size + 1, 0, none⟩ (.int .i64 s)).cell? ⟨w.heap.size + 1, 0, none⟩ = some (.int .i64 s) ∧ ((w5.setCell ⟨w.heap.size + 1, 0, none⟩ (.int .i64 s)).setCell ⟨w.heap.size + 1, 1, none⟩ (.slice A n c)).cell? ⟨w.heap.size + 1, 1, none⟩ = some (.slice A n c) := by
  obtain ⟨y0, y1, yz⟩ := hb.facts
  obtain ⟨k0, k1⟩ := res_cells (v0 := .int .i64 s) (v1 := .slice A n c) y0 y1
  refine ⟨Below.setCell (Below.setCell hx (by simp) _) (by simp) _, hr.keep (by simp [World.setCell]) fun b _ hk => ⟨trivial, fun o => ?_⟩, k0, k1⟩
  have hk2 : w.heap.size + 2 ≤ b := hk
  rw [World.cell?_setCell_other _ _ _ _ (by intro e; simp at e <;> omega), World.cell?_setCell_other _ _ _ _ (by intro e; simp at e <;> omega)]
set_option maxHeartbeats 8000000 in
theorem psec_any (nm : List UInt8) (g1 g2 g3 g4 : Int) (As : Option Addr) (ns cs : Nat) (st : List Stf) (Ac : Option Addr) (nc cc : Nat) (se : List Sec) (w : World) (name : List UInt8) (hs : Vec shStf w As ns st) (hc : Secs w Ac nc se)
    (hnl : nm.length ≤ 100) (hsl : ∀ i, i < ns → (stN st i).length ≤ 100) (hcl : ∀ i, i < nc → (seN se i).length ≤ 100) (hn1 : ns ≤ 30) (hn2 : nc ≤ 30) :
    Calls Try.prog 5 #[.agg #[.string ⟨nm.toArray⟩, .int .i64 g1, .int .i64 g2, .int .i64 g3, .int .i64 g4, .slice As ns cs, .slice Ac nc cc], .string ⟨name.toArray⟩] w (SecR (secS nm (gerr g1 g2 g3 g4) st se name) (secL nm (gerr g1 g2 g3 g4) st se name) (secE nm (gerr g1 g2 g3 g4) st se name) w) := by
  have HLC := Lib.hid hc.len
  have HSV := Lib.hid hs
  have HCV := Lib.hid hc
  have HBX := Lib.hid ((BoxP.start w nm g1 g2 g3 g4 As ns cs Ac nc cc).ext ((Ext.refl (w.alloc (.cells #[.string ⟨nm.toArray⟩, .int .i64 g1, .int .i64 g2, .int .i64 g3, .int .i64 g4, .slice As ns cs, .slice Ac nc cc] 27))).alloc (.cells #[.int .i64 0, .slice none 0 0] 31)))
  have HRB := Lib.hid (BoxC.second w (.cells #[.string ⟨nm.toArray⟩, .int .i64 g1, .int .i64 g2, .int .i64 g3, .int .i64 g4, .slice As ns cs, .slice Ac nc cc] 27))
  have HW0 := Lib.hid (show Ext w ((w.alloc (.cells #[.string ⟨nm.toArray⟩, .int .i64 g1, .int .i64 g2, .int .i64 g3, .int .i64 g4, .slice As ns cs, .slice Ac nc cc] 27)).alloc (.cells #[.int .i64 0, .slice none 0 0] 31)) from ((Ext.refl w).alloc _).alloc _)
  have HZW := Lib.hid (show ((w.alloc (.cells #[.string ⟨nm.toArray⟩, .int .i64 g1, .int .i64 g2, .int .i64 g3, .int .i64 g4, .slice As ns cs, .slice Ac nc cc] 27)).alloc (.cells #[.int .i64 0, .slice none 0 0] 31)).heap.size = w.heap.size + 2 by simp)
  have HCK := Lib.hid (fun (w' : World) (hx : Ext ((w.alloc (.cells #[.string ⟨nm.toArray⟩, .int .i64 g1, .int .i64 g2, .int .i64 g3, .int .i64 g4, .slice As ns cs, .slice Ac nc cc] 27)).alloc (.cells #[.int .i64 0, .slice none 0 0] 31)) w') => pcheck_any nm g1 g2 g3 g4 As ns cs st Ac nc cc se w' (HSV.out.ext (HW0.out.trans hx)) (HCV.out.ext (HW0.out.trans hx)) hnl hsl hcl hn1 hn2)
  obtain ⟨R, hR⟩ : ∃ R, patE nm (gerr g1 g2 g3 g4) st se = R := ⟨_, rfl⟩
  have HR := Lib.hid hR
  rw [hR] at HCK
  clear hs hc hsl hcl hR
  by_cases h0 : R = 0
  case neg =>
    have HV := Lib.hid (sec_1 (name := name) HR.out h0)
    have p7 : (R != 0) = true := by simpa using h0
    clear h0
    go_enter Try.func5, Try.ntmps5
    go_wp2_with (first
      | (go_at_call 9; go_loud ((with_reducible refine (HCK.out _ (by repeat (first | exact Ext.refl _ | assumption | refine Ext.alloc ?_ _ | refine Ext.drew ?_ | refine Ext.drewN ?_ _ | refine Ext.trans ?_ (by assumption)))).mono ?_); rintro e w3 ⟨rfl, hq3⟩; obtain ⟨x0, x1, x2, x3, x4, x5, x6, xz⟩ := (HBX.out.ext (by repeat (first | exact Ext.refl _ | assumption | refine Ext.alloc ?_ _ | refine Ext.drew ?_ | refine Ext.drewN ?_ _ | refine Ext.trans ?_ (by assumption)) : Ext _ w3)).facts; obtain ⟨y0, y1, yz⟩ := (HRB.out.ext (by repeat (first | exact Ext.refl _ | assumption | refine Ext.alloc ?_ _ | refine Ext.drew ?_ | refine Ext.drewN ?_ _ | refine Ext.trans ?_ (by assumption)) : Ext _ w3)).facts; have z0 := (HRB.out.ext (by repeat (first | exact Ext.refl _ | assumption | refine Ext.alloc ?_ _ | refine Ext.drew ?_ | refine Ext.drewN ?_ _ | refine Ext.trans ?_ (by assumption)) : Ext _ w3)).free 0; have z1 := (HRB.out.ext (by repeat (first | exact Ext.refl _ | assumption | refine Ext.alloc ?_ _ | refine Ext.drew ?_ | refine Ext.drewN ?_ _ | refine Ext.trans ?_ (by assumption)) : Ext _ w3)).free 1)))
    obtain ⟨n1, n2, k0, k1⟩ := sec_end (w := w) (w5 := w3) (s := 0) (c := 0) (HRB.out.ext (by repeat (first | exact Ext.refl _ | assumption | refine Ext.alloc ?_ _ | refine Ext.drew ?_ | refine Ext.drewN ?_ _ | refine Ext.trans ?_ (by assumption)))) (HW0.out.trans (by repeat (first | exact Ext.refl _ | assumption | refine Ext.alloc ?_ _ | refine Ext.drew ?_ | refine Ext.drewN ?_ _ | refine Ext.trans ?_ (by assumption)))) (Rws.none_ _ _ none)
    rw [HV.out.1, HV.out.2.1, HV.out.2.2]
    exact bodyPost_ret (v := .tuple #[.agg #[.int .i64 0, .slice none 0 0], .int .i64 R]) (by simp [results, Try.f5, go_sem, k0, k1]) rfl ⟨none, 0, 0, rfl, n1, n2⟩
  subst h0
  have HP := Lib.hid (pat_ok HR.out)
  go_enter Try.func5, Try.ntmps5
  go_wp2_with (first
    | (go_at_call 9; go_loud ((with_reducible refine (HCK.out _ (by repeat (first | exact Ext.refl _ | assumption | refine Ext.alloc ?_ _ | refine Ext.drew ?_ | refine Ext.drewN ?_ _ | refine Ext.trans ?_ (by assumption)))).mono ?_); rintro e w3 ⟨rfl, hq3⟩; obtain ⟨x0, x1, x2, x3, x4, x5, x6, xz⟩ := (HBX.out.ext (by repeat (first | exact Ext.refl _ | assumption | refine Ext.alloc ?_ _ | refine Ext.drew ?_ | refine Ext.drewN ?_ _ | refine Ext.trans ?_ (by assumption)) : Ext _ w3)).facts; obtain ⟨y0, y1, yz⟩ := (HRB.out.ext (by repeat (first | exact Ext.refl _ | assumption | refine Ext.alloc ?_ _ | refine Ext.drew ?_ | refine Ext.drewN ?_ _ | refine Ext.trans ?_ (by assumption)) : Ext _ w3)).facts; have z0 := (HRB.out.ext (by repeat (first | exact Ext.refl _ | assumption | refine Ext.alloc ?_ _ | refine Ext.drew ?_ | refine Ext.drewN ?_ _ | refine Ext.trans ?_ (by assumption)) : Ext _ w3)).free 0; have z1 := (HRB.out.ext (by repeat (first | exact Ext.refl _ | assumption | refine Ext.alloc ?_ _ | refine Ext.drew ?_ | refine Ext.drewN ?_ _ | refine Ext.trans ?_ (by assumption)) : Ext _ w3)).free 1)))
  go_loopw [18] (fun v wr => ∃ k : Nat, v = .int .i64 (k : Int) ∧ k ≤ nc ∧ Hid (secI se name = idxN (seN se) name (nc - k) k) ∧ Hid (Ext ((w.alloc (.cells #[.string ⟨nm.toArray⟩, .int .i64 g1, .int .i64 g2, .int .i64 g3, .int .i64 g4, .slice As ns cs, .slice Ac nc cc] 27)).alloc (.cells #[.int .i64 0, .slice none 0 0] 31)) wr)) (fun v _ => nc - (intOf v).toNat)
  case atStart => exact ⟨0, rfl, Nat.zero_le _, Lib.hid (by rw [secI, HLC.out]; rfl), Lib.hid (by repeat (first | exact Ext.refl _ | assumption | refine Ext.alloc ?_ _ | refine Ext.drew ?_ | refine Ext.drewN ?_ _ | refine Ext.trans ?_ (by assumption)))⟩
  case round =>
    clear x0 x1 x2 x3 x4 x5 x6 xz y0 y1 yz z0 z1
    obtain ⟨k, rfl, hk, HI, HE⟩ := hrel
    obtain ⟨wa, rfl⟩ : ∃ wa : World, wa = wr := ⟨_, rfl⟩
    obtain ⟨x0, x1, x2, x3, x4, x5, x6, xz⟩ := (HBX.out.ext (HE.out : Ext _ wa)).facts; obtain ⟨y0, y1, yz⟩ := (HRB.out.ext (HE.out : Ext _ wa)).facts; have z0 := (HRB.out.ext (HE.out : Ext _ wa)).free 0; have z1 := (HRB.out.ext (HE.out : Ext _ wa)).free 1
    have q0 : (0 : Int) ≤ (k : Int) := by omega
    by_cases hlt : k < nc
    · have q1 : (k : Int) < (nc : Int) := by omega
      obtain ⟨b', off, A', n', c', rfl, hb', c0, c1, c2, hr, hcap⟩ := (HCV.out.ext (HW0.out.trans HE.out)).at_ hlt
      have HRW := Lib.hid hr
      have hI := HI.out
      obtain ⟨m, hm⟩ : ∃ m, nc - k = m + 1 := ⟨nc - k - 1, by omega⟩
      rw [hm, idxN] at hI
      have hm2 : nc - (k + 1) = m := by omega
      obtain ⟨Y, hY⟩ : ∃ Y, seN se k = Y := ⟨_, rfl⟩
      rw [hY] at c0
      by_cases hxy : Y = name
      · rw [if_pos (hY.trans hxy)] at hI
        have hV := sec_3 (name := name) HR.out hI
        have hch := HP.out.2.2 k (by rw [HLC.out]; exact hlt)
        obtain ⟨S, hS⟩ : ∃ S, (se.getD k sec0).s = S := ⟨_, rfl⟩
        obtain ⟨L, hL⟩ : ∃ L, (se.getD k sec0).rows = L := ⟨_, rfl⟩
        rw [hS, hL] at hV hch
        rw [hS] at c1
        rw [hL] at HRW
        have HV := Lib.hid hV
        have hll := HRW.out.len
        have hn' := HRW.out.1
        unfold maxLen at hn'
        obtain ⟨e1, e2, e3⟩ := part_0 (k := 0) (q := n') hch (Nat.zero_le _) (by omega)
        have e4 : (cntC S L).getD 0 0 = S := rfl
        have e5 : (L.drop 0).take (n' - 0) = L := by rw [List.drop_zero, Nat.sub_zero, List.take_of_length_le (by omega)]
        have HPA := Lib.hid (fun (w' : World) (h : Ext wa w') => (show Calls Try.prog 13 #[.agg #[.int .i64 S, .slice A' n' c'], .int .i64 0, .int .i64 (n' : Int)] w' (ChR S L 0 w') from by
          have h9 := cpart_any S 0 (n' : Int) A' n' c' L w' (HRW.out.ext h) hcap
          have h8 := h9
          rw [show (0 : Int) = ((0 : Nat) : Int) from rfl] at h8
          rw [e1, e2, e3, e4, e5] at h8
          exact h8))
        have hb1 : (Y == name) = true := by simpa using hxy
        have p8 : (0 : Int) ≤ (n' : Int) := by omega
        clear hI hm hm2 hY hxy hS hL hV hch hll e1 e2 e3 e4 e5 hr
        go_wp2_with (first
          | (go_at_call 13; go_loud ((with_reducible refine (HPA.out _ (by repeat (first | exact Ext.refl _ | assumption | refine Ext.alloc ?_ _ | refine Ext.drew ?_ | refine Ext.drewN ?_ _ | refine Ext.trans ?_ (by assumption)))).mono ?_); rintro e w5 ⟨A5, n5, c5, rfl, hq5, hr5⟩; obtain ⟨x0, x1, x2, x3, x4, x5, x6, xz⟩ := (HBX.out.ext (HE.out.trans (by repeat (first | exact Ext.refl _ | assumption | refine Ext.alloc ?_ _ | refine Ext.drew ?_ | refine Ext.drewN ?_ _ | refine Ext.trans ?_ (by assumption))) : Ext _ w5)).facts; obtain ⟨y0, y1, yz⟩ := (HRB.out.ext (HE.out.trans (by repeat (first | exact Ext.refl _ | assumption | refine Ext.alloc ?_ _ | refine Ext.drew ?_ | refine Ext.drewN ?_ _ | refine Ext.trans ?_ (by assumption))) : Ext _ w5)).facts; have z0 := (HRB.out.ext (HE.out.trans (by repeat (first | exact Ext.refl _ | assumption | refine Ext.alloc ?_ _ | refine Ext.drew ?_ | refine Ext.drewN ?_ _ | refine Ext.trans ?_ (by assumption))) : Ext _ w5)).free 0; have z1 := (HRB.out.ext (HE.out.trans (by repeat (first | exact Ext.refl _ | assumption | refine Ext.alloc ?_ _ | refine Ext.drew ?_ | refine Ext.drewN ?_ _ | refine Ext.trans ?_ (by assumption))) : Ext _ w5)).free 1; have HE5 := Lib.hid (HE.out.trans (by repeat (first | exact Ext.refl _ | assumption | refine Ext.alloc ?_ _ | refine Ext.drew ?_ | refine Ext.drewN ?_ _ | refine Ext.trans ?_ (by assumption)) : Ext _ w5)); have HR5 := Lib.hid (hr5.mono (K' := fun b => w.heap.size + 2 ≤ b) (fun b _ hk => (by have h8 := Below.size HE.out; rw [HZW.out] at h8; have h9 : wa.heap.size ≤ b := Nat.le_trans (by simp) hk; omega))); clear hr5)))
        obtain ⟨n1, n2, k0, k1⟩ := sec_end (w := w) (w5 := w5) (s := S) (c := c5) (HRB.out.ext HE5.out) (HW0.out.trans HE5.out) HR5.out
        rw [HV.out.1, HV.out.2.1, HV.out.2.2]
        exact bodyPost_ret (v := .tuple #[.agg #[.int .i64 S, .slice A5 n5 c5], .int .i64 0]) (by simp [results, Try.f5, go_sem, k0, k1]) rfl ⟨A5, n5, c5, rfl, n1, n2⟩
      · rw [if_neg (fun h9 => hxy (hY.symm.trans h9)), ← hm2] at hI
        have HN := Lib.hid hI
        have hb1 : (Y == name) = false := by simpa using hxy
        clear hI hm hm2 hY hxy hr
        go_wp2_with fail
        go_roundw
        case rel => exact ⟨k + 1, by go_num, by omega, HN, Lib.hid (HE.out.trans (by repeat (first | exact Ext.refl _ | assumption | refine Ext.alloc ?_ _ | refine Ext.drew ?_ | refine Ext.drewN ?_ _ | refine Ext.trans ?_ (by assumption))))⟩
        case measure => simp [intOf] <;> omega
    · obtain rfl : nc = k := by omega
      have HV := Lib.hid (sec_2 (name := name) HR.out (by rw [HI.out, Nat.sub_self]; rfl))
      go_wp2_with fail
      obtain ⟨n1, n2, k0, k1⟩ := sec_end (w := w) (w5 := wa) (s := 0) (c := 0) (HRB.out.ext HE.out) (HW0.out.trans HE.out) (Rws.none_ _ _ none)
      rw [HV.out.1, HV.out.2.1, HV.out.2.2]
      exact bodyPost_ret (v := .tuple #[.agg #[.int .i64 0, .slice none 0 0], .int .i64 6]) (by simp [results, Try.f5, go_sem, k0, k1]) rfl ⟨none, 0, 0, rfl, n1, n2⟩
set_option maxHeartbeats 8000000 in
theorem rpsec_any (nm : List UInt8) (g1 g2 g3 g4 : Int) (As : Option Addr) (ns cs : Nat) (st : List Stf) (Ac : Option Addr) (nc cc : Nat) (se : List Sec) (w : World) (name : List UInt8) (hs : Vec shStf w As ns st) (hc : Secs w Ac nc se)
    (hnl : nm.length ≤ 100) (hsl : ∀ i, i < ns → (stN st i).length ≤ 100) (hcl : ∀ i, i < nc → (seN se i).length ≤ 100) (hn1 : ns ≤ 30) (hn2 : nc ≤ 30) :
    Calls Try.prog 6 #[.agg #[.string ⟨nm.toArray⟩, .int .i64 g1, .int .i64 g2, .int .i64 g3, .int .i64 g4, .slice As ns cs, .slice Ac nc cc], .string ⟨name.toArray⟩] w (SecR (secS nm (gerr g1 g2 g3 g4) st se name) (secL nm (gerr g1 g2 g3 g4) st se name) (secE nm (gerr g1 g2 g3 g4) st se name) w) := by
  have HLC := Lib.hid hc.len
  have HSV := Lib.hid hs
  have HCV := Lib.hid hc
  have HBX := Lib.hid ((BoxP.start w nm g1 g2 g3 g4 As ns cs Ac nc cc).ext ((Ext.refl (w.alloc (.cells #[.string ⟨nm.toArray⟩, .int .i64 g1, .int .i64 g2, .int .i64 g3, .int .i64 g4, .slice As ns cs, .slice Ac nc cc] 27))).alloc (.cells #[.int .i64 0, .slice none 0 0] 31)))
  have HRB := Lib.hid (BoxC.second w (.cells #[.string ⟨nm.toArray⟩, .int .i64 g1, .int .i64 g2, .int .i64 g3, .int .i64 g4, .slice As ns cs, .slice Ac nc cc] 27))
  have HW0 := Lib.hid (show Ext w ((w.alloc (.cells #[.string ⟨nm.toArray⟩, .int .i64 g1, .int .i64 g2, .int .i64 g3, .int .i64 g4, .slice As ns cs, .slice Ac nc cc] 27)).alloc (.cells #[.int .i64 0, .slice none 0 0] 31)) from ((Ext.refl w).alloc _).alloc _)
  have HZW := Lib.hid (show ((w.alloc (.cells #[.string ⟨nm.toArray⟩, .int .i64 g1, .int .i64 g2, .int .i64 g3, .int .i64 g4, .slice As ns cs, .slice Ac nc cc] 27)).alloc (.cells #[.int .i64 0, .slice none 0 0] 31)).heap.size = w.heap.size + 2 by simp)
  have HCK := Lib.hid (fun (w' : World) (hx : Ext ((w.alloc (.cells #[.string ⟨nm.toArray⟩, .int .i64 g1, .int .i64 g2, .int .i64 g3, .int .i64 g4, .slice As ns cs, .slice Ac nc cc] 27)).alloc (.cells #[.int .i64 0, .slice none 0 0] 31)) w') => rpcheck_any nm g1 g2 g3 g4 As ns cs st Ac nc cc se w' (HSV.out.ext (HW0.out.trans hx)) (HCV.out.ext (HW0.out.trans hx)) hnl hsl hcl hn1 hn2)
  obtain ⟨R, hR⟩ : ∃ R, patE nm (gerr g1 g2 g3 g4) st se = R := ⟨_, rfl⟩
  have HR := Lib.hid hR
  rw [hR] at HCK
  clear hs hc hsl hcl hR
  by_cases h0 : R = 0
  case neg =>
    have HV := Lib.hid (sec_1 (name := name) HR.out h0)
    have p7 : (R != 0) = true := by simpa using h0
    clear h0
    go_enter Try.func6, Try.ntmps6
    go_wp2_with (first
      | (go_at_call 10; go_loud ((with_reducible refine (HCK.out _ (by repeat (first | exact Ext.refl _ | assumption | refine Ext.alloc ?_ _ | refine Ext.drew ?_ | refine Ext.drewN ?_ _ | refine Ext.trans ?_ (by assumption)))).mono ?_); rintro e w3 ⟨rfl, hq3⟩; obtain ⟨x0, x1, x2, x3, x4, x5, x6, xz⟩ := (HBX.out.ext (by repeat (first | exact Ext.refl _ | assumption | refine Ext.alloc ?_ _ | refine Ext.drew ?_ | refine Ext.drewN ?_ _ | refine Ext.trans ?_ (by assumption)) : Ext _ w3)).facts; obtain ⟨y0, y1, yz⟩ := (HRB.out.ext (by repeat (first | exact Ext.refl _ | assumption | refine Ext.alloc ?_ _ | refine Ext.drew ?_ | refine Ext.drewN ?_ _ | refine Ext.trans ?_ (by assumption)) : Ext _ w3)).facts; have z0 := (HRB.out.ext (by repeat (first | exact Ext.refl _ | assumption | refine Ext.alloc ?_ _ | refine Ext.drew ?_ | refine Ext.drewN ?_ _ | refine Ext.trans ?_ (by assumption)) : Ext _ w3)).free 0; have z1 := (HRB.out.ext (by repeat (first | exact Ext.refl _ | assumption | refine Ext.alloc ?_ _ | refine Ext.drew ?_ | refine Ext.drewN ?_ _ | refine Ext.trans ?_ (by assumption)) : Ext _ w3)).free 1)))
    obtain ⟨n1, n2, k0, k1⟩ := sec_end (w := w) (w5 := w3) (s := 0) (c := 0) (HRB.out.ext (by repeat (first | exact Ext.refl _ | assumption | refine Ext.alloc ?_ _ | refine Ext.drew ?_ | refine Ext.drewN ?_ _ | refine Ext.trans ?_ (by assumption)))) (HW0.out.trans (by repeat (first | exact Ext.refl _ | assumption | refine Ext.alloc ?_ _ | refine Ext.drew ?_ | refine Ext.drewN ?_ _ | refine Ext.trans ?_ (by assumption)))) (Rws.none_ _ _ none)
    rw [HV.out.1, HV.out.2.1, HV.out.2.2]
    exact bodyPost_ret (v := .tuple #[.agg #[.int .i64 0, .slice none 0 0], .int .i64 R]) (by simp [results, Try.f6, go_sem, k0, k1]) rfl ⟨none, 0, 0, rfl, n1, n2⟩
  subst h0
  have HP := Lib.hid (pat_ok HR.out)
  have HNA := Lib.hid (fun (w' : World) (hx : Ext ((w.alloc (.cells #[.string ⟨nm.toArray⟩, .int .i64 g1, .int .i64 g2, .int .i64 g3, .int .i64 g4, .slice As ns cs, .slice Ac nc cc] 27)).alloc (.cells #[.int .i64 0, .slice none 0 0] 31)) w') => rnames_any nm g1 g2 g3 g4 As ns cs Ac nc cc se w' (HCV.out.ext (HW0.out.trans hx)) hn2)
  have hix : idxN (fun i => (nmsL (seN se) nc).getD i []) name nc 0 = secI se name := by
    rw [secI, HLC.out]
    exact idx_congr nc 0 (fun j _ h2 => nms_get (by omega))
  rcases idx_cases (g := seN se) (x := name) nc 0 with hI | ⟨k, -, hk, hI⟩
  · have hI2 : secI se name = -1 := by rw [secI, HLC.out]; exact hI
    have HIX := Lib.hid (hix.trans hI2)
    have HV := Lib.hid (sec_2 (name := name) HR.out hI2)
    clear hix hI hI2
    go_enter Try.func6, Try.ntmps6
    go_wp2_with (first
      | (go_at_call 10; go_loud ((with_reducible refine (HCK.out _ (by repeat (first | exact Ext.refl _ | assumption | refine Ext.alloc ?_ _ | refine Ext.drew ?_ | refine Ext.drewN ?_ _ | refine Ext.trans ?_ (by assumption)))).mono ?_); rintro e w3 ⟨rfl, hq3⟩; obtain ⟨x0, x1, x2, x3, x4, x5, x6, xz⟩ := (HBX.out.ext (by repeat (first | exact Ext.refl _ | assumption | refine Ext.alloc ?_ _ | refine Ext.drew ?_ | refine Ext.drewN ?_ _ | refine Ext.trans ?_ (by assumption)) : Ext _ w3)).facts; obtain ⟨y0, y1, yz⟩ := (HRB.out.ext (by repeat (first | exact Ext.refl _ | assumption | refine Ext.alloc ?_ _ | refine Ext.drew ?_ | refine Ext.drewN ?_ _ | refine Ext.trans ?_ (by assumption)) : Ext _ w3)).facts; have z0 := (HRB.out.ext (by repeat (first | exact Ext.refl _ | assumption | refine Ext.alloc ?_ _ | refine Ext.drew ?_ | refine Ext.drewN ?_ _ | refine Ext.trans ?_ (by assumption)) : Ext _ w3)).free 0; have z1 := (HRB.out.ext (by repeat (first | exact Ext.refl _ | assumption | refine Ext.alloc ?_ _ | refine Ext.drew ?_ | refine Ext.drewN ?_ _ | refine Ext.trans ?_ (by assumption)) : Ext _ w3)).free 1))
      | (go_at_call 15; go_loud ((with_reducible refine (HNA.out _ (by repeat (first | exact Ext.refl _ | assumption | refine Ext.alloc ?_ _ | refine Ext.drew ?_ | refine Ext.drewN ?_ _ | refine Ext.trans ?_ (by assumption)))).mono ?_); rintro e w7 ⟨A7, c7, rfl, hv7, hq7⟩; have HVN := Lib.hid hv7; clear hv7; obtain ⟨x0, x1, x2, x3, x4, x5, x6, xz⟩ := (HBX.out.ext (by repeat (first | exact Ext.refl _ | assumption | refine Ext.alloc ?_ _ | refine Ext.drew ?_ | refine Ext.drewN ?_ _ | refine Ext.trans ?_ (by assumption)) : Ext _ w7)).facts; obtain ⟨y0, y1, yz⟩ := (HRB.out.ext (by repeat (first | exact Ext.refl _ | assumption | refine Ext.alloc ?_ _ | refine Ext.drew ?_ | refine Ext.drewN ?_ _ | refine Ext.trans ?_ (by assumption)) : Ext _ w7)).facts; have z0 := (HRB.out.ext (by repeat (first | exact Ext.refl _ | assumption | refine Ext.alloc ?_ _ | refine Ext.drew ?_ | refine Ext.drewN ?_ _ | refine Ext.trans ?_ (by assumption)) : Ext _ w7)).free 0; have z1 := (HRB.out.ext (by repeat (first | exact Ext.refl _ | assumption | refine Ext.alloc ?_ _ | refine Ext.drew ?_ | refine Ext.drewN ?_ _ | refine Ext.trans ?_ (by assumption)) : Ext _ w7)).free 1))
      | (go_at_call 14; go_loud ((with_reducible refine (ridx_any A7 nc c7 (nmsL (seN se) nc) name _ (HVN.out.ext (by repeat (first | exact Ext.refl _ | assumption | refine Ext.alloc ?_ _ | refine Ext.drew ?_ | refine Ext.drewN ?_ _ | refine Ext.trans ?_ (by assumption)))) (by omega)).mono ?_); rintro e w8 ⟨rfl, hq8⟩; rw [HIX.out]; obtain ⟨x0, x1, x2, x3, x4, x5, x6, xz⟩ := (HBX.out.ext (by repeat (first | exact Ext.refl _ | assumption | refine Ext.alloc ?_ _ | refine Ext.drew ?_ | refine Ext.drewN ?_ _ | refine Ext.trans ?_ (by assumption)) : Ext _ w8)).facts; obtain ⟨y0, y1, yz⟩ := (HRB.out.ext (by repeat (first | exact Ext.refl _ | assumption | refine Ext.alloc ?_ _ | refine Ext.drew ?_ | refine Ext.drewN ?_ _ | refine Ext.trans ?_ (by assumption)) : Ext _ w8)).facts; have z0 := (HRB.out.ext (by repeat (first | exact Ext.refl _ | assumption | refine Ext.alloc ?_ _ | refine Ext.drew ?_ | refine Ext.drewN ?_ _ | refine Ext.trans ?_ (by assumption)) : Ext _ w8)).free 0; have z1 := (HRB.out.ext (by repeat (first | exact Ext.refl _ | assumption | refine Ext.alloc ?_ _ | refine Ext.drew ?_ | refine Ext.drewN ?_ _ | refine Ext.trans ?_ (by assumption)) : Ext _ w8)).free 1)))
    obtain ⟨n1, n2, k0, k1⟩ := sec_end (w := w) (w5 := w8) (s := 0) (c := 0) (HRB.out.ext (by repeat (first | exact Ext.refl _ | assumption | refine Ext.alloc ?_ _ | refine Ext.drew ?_ | refine Ext.drewN ?_ _ | refine Ext.trans ?_ (by assumption)))) (HW0.out.trans (by repeat (first | exact Ext.refl _ | assumption | refine Ext.alloc ?_ _ | refine Ext.drew ?_ | refine Ext.drewN ?_ _ | refine Ext.trans ?_ (by assumption)))) (Rws.none_ _ _ none)
    rw [HV.out.1, HV.out.2.1, HV.out.2.2]
    exact bodyPost_ret (v := .tuple #[.agg #[.int .i64 0, .slice none 0 0], .int .i64 6]) (by simp [results, Try.f6, go_sem, k0, k1]) rfl ⟨none, 0, 0, rfl, n1, n2⟩
  · have hI2 : secI se name = (k : Int) := by rw [secI, HLC.out]; exact hI
    have hk2 : k < nc := by omega
    have HIX := Lib.hid (hix.trans hI2)
    have hV := sec_3 (name := name) HR.out hI2
    have hch := HP.out.2.2 k (by rw [HLC.out]; exact hk2)
    obtain ⟨S, hS⟩ : ∃ S, (se.getD k sec0).s = S := ⟨_, rfl⟩
    obtain ⟨L, hL⟩ : ∃ L, (se.getD k sec0).rows = L := ⟨_, rfl⟩
    rw [hS, hL] at hV hch
    have HV := Lib.hid hV
    have HCH := Lib.hid hch
    have HS9 := Lib.hid hS
    have HL9 := Lib.hid hL
    have q0 : (0 : Int) ≤ (k : Int) := by omega
    have q1 : (k : Int) < (nc : Int) := by omega
    have p9 : ¬ ((k : Int) < 0) := by omega
    clear hix hI hI2 hV hch hS hL hk
    go_enter Try.func6, Try.ntmps6
    go_wp2_with (first
      | (go_at_call 10; go_loud ((with_reducible refine (HCK.out _ (by repeat (first | exact Ext.refl _ | assumption | refine Ext.alloc ?_ _ | refine Ext.drew ?_ | refine Ext.drewN ?_ _ | refine Ext.trans ?_ (by assumption)))).mono ?_); rintro e w3 ⟨rfl, hq3⟩; obtain ⟨x0, x1, x2, x3, x4, x5, x6, xz⟩ := (HBX.out.ext (by repeat (first | exact Ext.refl _ | assumption | refine Ext.alloc ?_ _ | refine Ext.drew ?_ | refine Ext.drewN ?_ _ | refine Ext.trans ?_ (by assumption)) : Ext _ w3)).facts; obtain ⟨y0, y1, yz⟩ := (HRB.out.ext (by repeat (first | exact Ext.refl _ | assumption | refine Ext.alloc ?_ _ | refine Ext.drew ?_ | refine Ext.drewN ?_ _ | refine Ext.trans ?_ (by assumption)) : Ext _ w3)).facts; have z0 := (HRB.out.ext (by repeat (first | exact Ext.refl _ | assumption | refine Ext.alloc ?_ _ | refine Ext.drew ?_ | refine Ext.drewN ?_ _ | refine Ext.trans ?_ (by assumption)) : Ext _ w3)).free 0; have z1 := (HRB.out.ext (by repeat (first | exact Ext.refl _ | assumption | refine Ext.alloc ?_ _ | refine Ext.drew ?_ | refine Ext.drewN ?_ _ | refine Ext.trans ?_ (by assumption)) : Ext _ w3)).free 1))
      | (go_at_call 15; go_loud ((with_reducible refine (HNA.out _ (by repeat (first | exact Ext.refl _ | assumption | refine Ext.alloc ?_ _ | refine Ext.drew ?_ | refine Ext.drewN ?_ _ | refine Ext.trans ?_ (by assumption)))).mono ?_); rintro e w7 ⟨A7, c7, rfl, hv7, hq7⟩; have HVN := Lib.hid hv7; clear hv7; obtain ⟨x0, x1, x2, x3, x4, x5, x6, xz⟩ := (HBX.out.ext (by repeat (first | exact Ext.refl _ | assumption | refine Ext.alloc ?_ _ | refine Ext.drew ?_ | refine Ext.drewN ?_ _ | refine Ext.trans ?_ (by assumption)) : Ext _ w7)).facts; obtain ⟨y0, y1, yz⟩ := (HRB.out.ext (by repeat (first | exact Ext.refl _ | assumption | refine Ext.alloc ?_ _ | refine Ext.drew ?_ | refine Ext.drewN ?_ _ | refine Ext.trans ?_ (by assumption)) : Ext _ w7)).facts; have z0 := (HRB.out.ext (by repeat (first | exact Ext.refl _ | assumption | refine Ext.alloc ?_ _ | refine Ext.drew ?_ | refine Ext.drewN ?_ _ | refine Ext.trans ?_ (by assumption)) : Ext _ w7)).free 0; have z1 := (HRB.out.ext (by repeat (first | exact Ext.refl _ | assumption | refine Ext.alloc ?_ _ | refine Ext.drew ?_ | refine Ext.drewN ?_ _ | refine Ext.trans ?_ (by assumption)) : Ext _ w7)).free 1))
      | (go_at_call 14; go_loud ((with_reducible refine (ridx_any A7 nc c7 (nmsL (seN se) nc) name _ (HVN.out.ext (by repeat (first | exact Ext.refl _ | assumption | refine Ext.alloc ?_ _ | refine Ext.drew ?_ | refine Ext.drewN ?_ _ | refine Ext.trans ?_ (by assumption)))) (by omega)).mono ?_); rintro e w8 ⟨rfl, hq8⟩; rw [HIX.out]; obtain ⟨x0, x1, x2, x3, x4, x5, x6, xz⟩ := (HBX.out.ext (by repeat (first | exact Ext.refl _ | assumption | refine Ext.alloc ?_ _ | refine Ext.drew ?_ | refine Ext.drewN ?_ _ | refine Ext.trans ?_ (by assumption)) : Ext _ w8)).facts; obtain ⟨y0, y1, yz⟩ := (HRB.out.ext (by repeat (first | exact Ext.refl _ | assumption | refine Ext.alloc ?_ _ | refine Ext.drew ?_ | refine Ext.drewN ?_ _ | refine Ext.trans ?_ (by assumption)) : Ext _ w8)).facts; have z0 := (HRB.out.ext (by repeat (first | exact Ext.refl _ | assumption | refine Ext.alloc ?_ _ | refine Ext.drew ?_ | refine Ext.drewN ?_ _ | refine Ext.trans ?_ (by assumption)) : Ext _ w8)).free 0; have z1 := (HRB.out.ext (by repeat (first | exact Ext.refl _ | assumption | refine Ext.alloc ?_ _ | refine Ext.drew ?_ | refine Ext.drewN ?_ _ | refine Ext.trans ?_ (by assumption)) : Ext _ w8)).free 1)))
    have HXE := Lib.hid (by repeat (first | exact Ext.refl _ | assumption | refine Ext.alloc ?_ _ | refine Ext.drew ?_ | refine Ext.drewN ?_ _ | refine Ext.trans ?_ (by assumption)) : Ext ((w.alloc (.cells #[.string ⟨nm.toArray⟩, .int .i64 g1, .int .i64 g2, .int .i64 g3, .int .i64 g4, .slice As ns cs, .slice Ac nc cc] 27)).alloc (.cells #[.int .i64 0, .slice none 0 0] 31)) w8)
    obtain ⟨b', off, A', n', c', hA, hbw, c0, d1, d2, hr, hcap⟩ := HCV.out.at_ hk2
    subst hA
    rw [HS9.out] at d1
    obtain ⟨hw1, hw2, hw3⟩ := (HW0.out.trans HXE.out).facts
    have c1 := (hw1 _ _ hbw).trans d1
    have c2 := (hw1 _ _ hbw).trans d2
    have hb' := hw3 _ hbw
    have hne : ¬ (b' = w.heap.size + 1) := by omega
    have hne2 : ¬ (w.heap.size + 1 = b') := by omega
    rw [HL9.out] at hr
    have HRW := Lib.hid (hr.ext (HW0.out.trans HXE.out))
    obtain ⟨hc1, -, -, hc4⟩ := chkC_ok HCH.out
    have hll := hr.len
    have HTW := Lib.hid (fun (w' : World) (h : Ext w8 w') => rtwin_any A' n' c' L w' (HRW.out.ext h) (by omega) (fun j hj => by
      have h9 := (allE_e (chkGo_ok hc4 j (by omega)).1).1
      omega))
    have p8 : (0 : Int) ≤ (n' : Int) := by omega
    clear hr hc4 hll c0 hq3 hq7 hq8 hw1 hw2 hw3 d1 d2 hbw
    go_region_held3 (fun wx => wx.cell? ⟨w.heap.size, 6, none⟩ = some (.slice (some ⟨b', off, none⟩) nc cc) ∧ wx.cell? ⟨b', off + k * 3 + 1, none⟩ = some (.int .i64 S) ∧ wx.cell? ⟨b', off + k * 3 + 2, none⟩ = some (.slice A' n' c')) (go_keep) (first
      | (go_at_call 16; ((with_reducible refine (HTW.out _ (by repeat (first | exact Ext.refl _ | assumption | refine Ext.alloc ?_ _ | refine Ext.drew ?_ | refine Ext.drewN ?_ _ | refine Ext.trans ?_ (by assumption)))).mono ?_); rintro e w9 ⟨v9, rfl, hq9, ho9⟩; obtain ⟨A9, c9, rfl, hr9⟩ := own_rws ho9 (by omega); have HE9 := Lib.hid (HXE.out.trans (Ext.trans (by repeat (first | exact Ext.refl _ | assumption | refine Ext.alloc ?_ _ | refine Ext.drew ?_ | refine Ext.drewN ?_ _ | refine Ext.trans ?_ (by assumption))) hq9 : Ext w8 w9)); obtain ⟨hf1, hf2, hf3⟩ := (Ext.trans (by repeat (first | exact Ext.refl _ | assumption | refine Ext.alloc ?_ _ | refine Ext.drew ?_ | refine Ext.drewN ?_ _ | refine Ext.trans ?_ (by assumption))) hq9 : Ext w8 w9).facts; have HR9 := Lib.hid (hr9.mono (K' := fun b => w.heap.size + 2 ≤ b) (fun b _ hk => (by have h8 := Below.size HXE.out; rw [HZW.out] at h8; have h9 : w8.heap.size ≤ b := Nat.le_trans (by simp) hk; omega))); clear hr9 ho9; obtain ⟨x0, x1, x2, x3, x4, x5, x6, xz⟩ := (HBX.out.ext (HE9.out : Ext _ w9)).facts; obtain ⟨y0, y1, yz⟩ := (HRB.out.ext (HE9.out : Ext _ w9)).facts; have z0 := (HRB.out.ext (HE9.out : Ext _ w9)).free 0; have z1 := (HRB.out.ext (HE9.out : Ext _ w9)).free 1; have c1' := (hf1 _ _ hb').trans c1; have c2' := (hf1 _ _ hb').trans c2)))
    all_goals
      go_wp2_with fail
      obtain ⟨n1, n2, k0, k1⟩ := sec_end (w := w) (w5 := w9) (s := S) (c := c9) (HRB.out.ext HE9.out) (HW0.out.trans HE9.out) HR9.out
      rw [HV.out.1, HV.out.2.1, HV.out.2.2]
      exact bodyPost_ret (v := .tuple #[.agg #[.int .i64 S, .slice A9 L.length c9], .int .i64 0]) (by simp [results, Try.f6, go_sem, k0, k1]) rfl ⟨A9, L.length, c9, rfl, n1, n2⟩
end Go.Proofs.Ytfhecgipfhhchaa
