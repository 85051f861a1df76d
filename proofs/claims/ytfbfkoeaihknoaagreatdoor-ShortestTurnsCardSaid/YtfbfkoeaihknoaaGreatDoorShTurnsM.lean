/- Cells in the opposite order have a shortest list of the same size, so have cells in which two different kinds are exchanged, and its size is at most that of the number of cells; for at most 24 valid cells. -/
import Derived.Test.YtfbfkoeaihknoaaGreatDoorG31
import Derived.Test.YtfbfkoeaihknoaaGreatDoorG10
import Derived.Test.YtfbfkoeaihknoaaGreatDoorCards
namespace Go.Proofs.YtfbfkoeaihknoaaGreatDoor
set_option maxRecDepth 100000
set_option maxRecDepth 100000
open Go.ChangeShapes Go.WideShapes Go.ChangeAt Go.RowKit Go.Joins
/-- knits and yarn overs exchanged -/
def swapK (s : St) : St := if s = ⟨1, false, 0, 0⟩ then ⟨2, false, 0, 0⟩ else if s = ⟨2, false, 0, 0⟩ then ⟨1, false, 0, 0⟩ else s
theorem swap_swap (s : St) : swapK (swapK s) = s := by
  unfold swapK
  split
  · rename_i h; subst h; decide
  · split
    · rename_i h; subst h; decide
    · rfl
theorem swap_ok {s : St} (h : okSt s = true) : okSt (swapK s) = true := by
  unfold swapK
  split
  · decide
  · split
    · decide
    · exact h
theorem swap_all {l : List St} (h : allB l = true) : allB (l.map swapK) = true := by
  rw [allB, List.all_eq_true] at h ⊢
  intro x hx
  obtain ⟨y, hy, rfl⟩ := List.mem_map.1 hx
  exact swap_ok (h y hy)
theorem rev_all {l : List St} (h : allB l = true) : allB l.reverse = true := by
  rw [allB, List.all_eq_true] at h ⊢
  intro x hx
  exact h x (by simpa using hx)
theorem take_rev {l : List St} {n k : Nat} (hl : l.length = n) (hk : k < n) : l.reverse.take (k + 1) = l.reverse.take k ++ [l.getD (n - 1 - k) st0] := by
  rw [List.take_add_one, List.getElem?_reverse (by omega), hl, List.getD_eq_getElem?_getD, List.getElem?_eq_getElem (by omega)]
  simp
theorem take_map {l : List St} {n k : Nat} (hl : l.length = n) (hk : k < n) : (l.take (k + 1)).map swapK = (l.take k).map swapK ++ [swapK (l.getD k st0)] := by
  rw [List.take_add_one, List.map_append, List.getD_eq_getElem?_getD, List.getElem?_eq_getElem (by omega)]
  simp
theorem OwnV.apart {α : Type} {S : Shp α} {w w1 : World} {B : Nat} {e : TypeId} {v : Value} {k : Nat} {L : List α} {X : Option Nat} (h : OwnV S w B e v k L) (hg : w.grownBy w1 X) (hs : ∀ b, v.ownBlock = some b → X ≠ some b) : OwnV S w1 B e v k L :=
  World.ownsRow.kept h hg (by
    cases hv : v.ownBlock with
    | none => exact .inl rfl
    | some b => exact .inr fun e => hs b hv e.symm)
theorem sep_step {α : Type} {S : Shp α} {wx w1 : World} {B : Nat} {e : TypeId} {v1 v2 : Value} {k : Nat} {L : List α} {X : Option Nat} (h1 : OwnV S wx B e v1 k L) (hg : wx.grownBy w1 X) (hx : v2.ownBlock = X ∨ v2.ownBlock = some wx.heap.size) (hs : ∀ b, v1.ownBlock = some b → X ≠ some b) :
    OwnV S w1 B e v1 k L ∧ ∀ b, v1.ownBlock = some b → v2.ownBlock ≠ some b := by
  refine ⟨h1.apart hg hs, fun b hb e9 => ?_⟩
  rcases hx with h | h
  · rw [h] at e9; exact hs b hb e9
  · rw [h] at e9
    cases e9
    have := (OwnV.blk h1 _ hb).2
    omega
set_option maxHeartbeats 8000000 in
theorem shortestTurns_walk (n c : Nat) (A : Option Addr) (l : List St) (w : World) (hl : Vec shSt w A n l) (hn : n ≤ maxLen) (hg : Glob w) :
    Calls Tryz.prog 4 #[.slice A n c] w fun e w' => e = .returned (.bool true) ∧ Ext w w' := by
  have HL := Lib.hid hl
  have HLL := Lib.hid hl.1
  have HG := Lib.hid hg
  have HN := Lib.hid hn
  clear hl hg
  unfold maxLen at hn
  cases hfe : fewB l
  case false =>
    have HFE := Lib.hid hfe
    clear hfe
    go_enter Tryz.func4, Tryz.ntmps4
    go_wp2_with (first
      | (go_at_call 15; go_loud ((with_reducible refine (shalive_any _ (HG.out.ext (by repeat (first | exact Ext.refl _ | assumption | refine Ext.alloc ?_ _ | refine Ext.drew ?_ | refine Ext.drewN ?_ _ | refine Ext.trans ?_ (by assumption))))).mono ?_); rintro e w1 ⟨rfl, hq1⟩))
      | (go_at_call 16; go_loud ((with_reducible refine (few_any n c A l _ (HL.out.ext (by repeat (first | exact Ext.refl _ | assumption | refine Ext.alloc ?_ _ | refine Ext.drew ?_ | refine Ext.drewN ?_ _ | refine Ext.trans ?_ (by assumption)))) HN.out).mono ?_); rintro e w2 ⟨rfl, hq2⟩; rw [HFE.out])))
    all_goals (go_ret; exact ⟨by first | rfl | simp, by repeat (first | exact Ext.refl _ | assumption | refine Ext.alloc ?_ _ | refine Ext.drew ?_ | refine Ext.drewN ?_ _ | refine Ext.trans ?_ (by assumption))⟩)
  obtain ⟨h24, hal⟩ := few_e hfe
  have hn24 : n ≤ 24 := by rw [← HLL.out]; exact h24
  have HFE := Lib.hid hfe
  clear hfe h24
  go_enter Tryz.func4, Tryz.ntmps4
  go_wp2_with (first
    | (go_at_call 15; go_loud ((with_reducible refine (shalive_any _ (HG.out.ext (by repeat (first | exact Ext.refl _ | assumption | refine Ext.alloc ?_ _ | refine Ext.drew ?_ | refine Ext.drewN ?_ _ | refine Ext.trans ?_ (by assumption))))).mono ?_); rintro e w1 ⟨rfl, hq1⟩))
    | (go_at_call 16; go_loud ((with_reducible refine (few_any n c A l _ (HL.out.ext (by repeat (first | exact Ext.refl _ | assumption | refine Ext.alloc ?_ _ | refine Ext.drew ?_ | refine Ext.drewN ?_ _ | refine Ext.trans ?_ (by assumption)))) HN.out).mono ?_); rintro e w2 ⟨rfl, hq2⟩; rw [HFE.out])))
  have HE9 := Lib.hid (show Ext w w2 by repeat (first | exact Ext.refl _ | assumption | refine Ext.alloc ?_ _ | refine Ext.drew ?_ | refine Ext.drewN ?_ _ | refine Ext.trans ?_ (by assumption)))
  clear hq1 hq2
  go_loopw [4, 5, 6] (fun u1 u2 i wr => ∃ (V1 V2 : Value) (k : Nat), V1 = u1 ∧ V2 = u2 ∧ i = .int .i64 k ∧ k ≤ n ∧ Hid (OwnV shSt wr w.heap.size 39 V1 k ((l.take k).map swapK)) ∧ Hid (OwnV shSt wr w.heap.size 39 V2 k (l.reverse.take k)) ∧ Hid (∀ b, V1.ownBlock = some b → V2.ownBlock ≠ some b) ∧ Hid (Ext w wr)) (fun _ _ i _ => n - (intOf i).toNat)
  case atStart => exact ⟨_, _, 0, rfl, rfl, rfl, by omega, Lib.hid (OwnV.nil _ _ _ _), Lib.hid (OwnV.nil _ _ _ _), Lib.hid (fun b h => by simp [Value.ownBlock] at h), HE9⟩
  case round =>
    clear HE9
    obtain ⟨V1, V2, k, rfl, rfl, rfl, hk, HO1, HO2, HSP, HE⟩ := hrel
    obtain ⟨wa, rfl⟩ : ∃ wa : World, wa = wr := ⟨_, rfl⟩
    by_cases hlt : k < n
    · have q0 : (k : Int) < (n : Int) := by omega
      have q1 : (0 : Int) ≤ (k : Int) := by omega
      have j0 := IntWalk.i64_in ((n : Int) - 1) (by omega)
      have j1 := IntWalk.i64_in ((n : Int) - 1 - (k : Int)) (by omega)
      have q2 : (0 : Int) ≤ (n : Int) - 1 - (k : Int) := by omega
      have q3 : (n : Int) - 1 - (k : Int) < (n : Int) := by omega
      have q4 : ((n : Int) - 1 - (k : Int)).toNat = n - 1 - k := by omega
      obtain ⟨b, off, rfl, hb, hc⟩ := Sts.all HL.out (by omega)
      obtain ⟨c1', c2', c3', c4'⟩ := hc k hlt
      obtain ⟨d1', d2', d3', d4'⟩ := hc (n - 1 - k) (by omega)
      have HTR := Lib.hid (take_rev HLL.out hlt)
      have HTM := Lib.hid (take_map HLL.out hlt)
      have HBW := Lib.hid hb
      have hbz := Nat.lt_of_lt_of_le hb (Below.size HE.out)
      clear hc
      generalize hs : l.getD k st0 = s at *
      generalize hr : l.getD (n - 1 - k) st0 = r at *
      clear hs hr
      obtain ⟨r1, r2, r3, r4⟩ := r
      simp only at d1' d2' d3' d4'
      have c1 := (Below.cell (p := ⟨b, off + k * 4, none⟩) HE.out hb).trans c1'
      have c2 := (Below.cell (p := ⟨b, off + k * 4 + 1, none⟩) HE.out hb).trans c2'
      have c3 := (Below.cell (p := ⟨b, off + k * 4 + 2, none⟩) HE.out hb).trans c3'
      have c4 := (Below.cell (p := ⟨b, off + k * 4 + 3, none⟩) HE.out hb).trans c4'
      have d1 := (Below.cell (p := ⟨b, _, none⟩) HE.out hb).trans d1'
      have d2 := (Below.cell (p := ⟨b, _, none⟩) HE.out hb).trans d2'
      have d3 := (Below.cell (p := ⟨b, _, none⟩) HE.out hb).trans d3'
      have d4 := (Below.cell (p := ⟨b, _, none⟩) HE.out hb).trans d4'
      clear d1' d2' d3' d4' hb
      by_cases e1 : s = ⟨1, false, 0, 0⟩
      · subst e1
        have HSW := Lib.hid (show swapK ⟨1, false, 0, 0⟩ = ⟨2, false, 0, 0⟩ by decide)
        have W1 := Lib.hid c1'
        have W2 := Lib.hid c2'
        have W3 := Lib.hid c3'
        have W4 := Lib.hid c4'
        clear c1' c2' c3' c4'
        simp only at c1 c2 c3 c4
        go_wp2_with (first
          | (at_builtin; (first | (refine wpList_append_vecsB (S := shSt) (w := w) (L := (l.take k).map swapK) (k := k) (m := 1) (c := 1) (xs := [⟨2, false, 0, 0⟩]) 35 39 (.agg #[.int .u8 0, .bool false, .int .i64 0, .int .i64 0]) 24 (by rfl) (by rfl) Tryz.underlying35 info_st (by rfl) (by omega) (by rfl) (by rfl) (HP5.out.1.ext (by repeat (first | exact Ext.refl _ | assumption | refine Ext.alloc ?_ _ | refine Ext.drew ?_ | refine Ext.drewN ?_ _ | refine Ext.trans ?_ (by assumption)))) (HX5.out.trans (by repeat (first | exact Ext.refl _ | assumption | refine Ext.alloc ?_ _ | refine Ext.drew ?_ | refine Ext.drewN ?_ _ | refine Ext.trans ?_ (by assumption)))) (Vec.lit2 (by simp) rfl rfl) (by omega) ?_; intro v6 w6 hown6 hx6 hgr6; have hsp6 := sep_step (HN5.out.ext (by repeat (first | exact Ext.refl _ | assumption | refine Ext.alloc ?_ _ | refine Ext.drew ?_ | refine Ext.drewN ?_ _ | refine Ext.trans ?_ (by assumption)))) hgr6.out.1 hgr6.out.2 (fun b hb e9 => HP5.out.2 b e9 hb); have HP6 := Lib.hid hsp6; have HN6 := Lib.hid (show OwnV shSt w6 w.heap.size 39 v6 (k + 1) ((l.take (k + 1)).map swapK) by rw [HTM.out, HSW.out]; exact hown6); have HX6 := Lib.hid hx6.out; clear hsp6 hown6 hgr6) | (go_loud (refine wpList_append_vecsB (S := shSt) (w := w) (L := l.reverse.take k) (k := k) (m := 1) (c := 1) (xs := [⟨r1, r2, r3, r4⟩]) 35 39 (.agg #[.int .u8 0, .bool false, .int .i64 0, .int .i64 0]) 24 (by rfl) (by rfl) Tryz.underlying35 info_st (by rfl) (by omega) (by rfl) (by rfl) (HO2.out.ext (by repeat (first | exact Ext.refl _ | assumption | refine Ext.alloc ?_ _ | refine Ext.drew ?_ | refine Ext.drewN ?_ _ | refine Ext.trans ?_ (by assumption)))) (HE.out.trans (by repeat (first | exact Ext.refl _ | assumption | refine Ext.alloc ?_ _ | refine Ext.drew ?_ | refine Ext.drewN ?_ _ | refine Ext.trans ?_ (by assumption)))) (Vec.lit2 (by simp) rfl rfl) (by omega) ?_; intro v5 w5 hown5 hx5 hgr5; have hsp5 := sep_step (HO1.out.ext (by repeat (first | exact Ext.refl _ | assumption | refine Ext.alloc ?_ _ | refine Ext.drew ?_ | refine Ext.drewN ?_ _ | refine Ext.trans ?_ (by assumption)))) hgr5.out.1 hgr5.out.2 HSP.out; have HP5 := Lib.hid hsp5; have HN5 := Lib.hid (show OwnV shSt w5 w.heap.size 39 v5 (k + 1) (l.reverse.take (k + 1)) by rw [HTR.out]; exact hown5); have hq5 := hx5.out; have HX5 := Lib.hid hq5; have hbw := HBW.out; have y1 := (Below.cell (p := ⟨b, off + k * 4, none⟩) hq5 hbw).trans W1.out; have y2 := (Below.cell (p := ⟨b, off + k * 4 + 1, none⟩) hq5 hbw).trans W2.out; have y3 := (Below.cell (p := ⟨b, off + k * 4 + 2, none⟩) hq5 hbw).trans W3.out; have y4 := (Below.cell (p := ⟨b, off + k * 4 + 3, none⟩) hq5 hbw).trans W4.out; have yz := Nat.lt_of_lt_of_le hbw (Below.size hq5); clear hsp5 hown5 hgr5)))))
        all_goals
          go_roundw
          case rel => exact ⟨v6, v5, k + 1, rfl, rfl, by go_num, by omega, HN6, Lib.hid HP6.out.1, Lib.hid (fun b hb e9 => HP6.out.2 b e9 hb), HX6⟩
          case measure => simp [intOf]; omega
      by_cases e2 : s = ⟨2, false, 0, 0⟩
      · subst e2
        have HSW := Lib.hid (show swapK ⟨2, false, 0, 0⟩ = ⟨1, false, 0, 0⟩ by decide)
        have W1 := Lib.hid c1'
        have W2 := Lib.hid c2'
        have W3 := Lib.hid c3'
        have W4 := Lib.hid c4'
        clear c1' c2' c3' c4' e1
        simp only at c1 c2 c3 c4
        go_wp2_with (first
          | (at_builtin; (first | (refine wpList_append_vecsB (S := shSt) (w := w) (L := (l.take k).map swapK) (k := k) (m := 1) (c := 1) (xs := [⟨1, false, 0, 0⟩]) 35 39 (.agg #[.int .u8 0, .bool false, .int .i64 0, .int .i64 0]) 24 (by rfl) (by rfl) Tryz.underlying35 info_st (by rfl) (by omega) (by rfl) (by rfl) (HP5.out.1.ext (by repeat (first | exact Ext.refl _ | assumption | refine Ext.alloc ?_ _ | refine Ext.drew ?_ | refine Ext.drewN ?_ _ | refine Ext.trans ?_ (by assumption)))) (HX5.out.trans (by repeat (first | exact Ext.refl _ | assumption | refine Ext.alloc ?_ _ | refine Ext.drew ?_ | refine Ext.drewN ?_ _ | refine Ext.trans ?_ (by assumption)))) (Vec.lit2 (by simp) rfl rfl) (by omega) ?_; intro v6 w6 hown6 hx6 hgr6; have hsp6 := sep_step (HN5.out.ext (by repeat (first | exact Ext.refl _ | assumption | refine Ext.alloc ?_ _ | refine Ext.drew ?_ | refine Ext.drewN ?_ _ | refine Ext.trans ?_ (by assumption)))) hgr6.out.1 hgr6.out.2 (fun b hb e9 => HP5.out.2 b e9 hb); have HP6 := Lib.hid hsp6; have HN6 := Lib.hid (show OwnV shSt w6 w.heap.size 39 v6 (k + 1) ((l.take (k + 1)).map swapK) by rw [HTM.out, HSW.out]; exact hown6); have HX6 := Lib.hid hx6.out; clear hsp6 hown6 hgr6) | (go_loud (refine wpList_append_vecsB (S := shSt) (w := w) (L := l.reverse.take k) (k := k) (m := 1) (c := 1) (xs := [⟨r1, r2, r3, r4⟩]) 35 39 (.agg #[.int .u8 0, .bool false, .int .i64 0, .int .i64 0]) 24 (by rfl) (by rfl) Tryz.underlying35 info_st (by rfl) (by omega) (by rfl) (by rfl) (HO2.out.ext (by repeat (first | exact Ext.refl _ | assumption | refine Ext.alloc ?_ _ | refine Ext.drew ?_ | refine Ext.drewN ?_ _ | refine Ext.trans ?_ (by assumption)))) (HE.out.trans (by repeat (first | exact Ext.refl _ | assumption | refine Ext.alloc ?_ _ | refine Ext.drew ?_ | refine Ext.drewN ?_ _ | refine Ext.trans ?_ (by assumption)))) (Vec.lit2 (by simp) rfl rfl) (by omega) ?_; intro v5 w5 hown5 hx5 hgr5; have hsp5 := sep_step (HO1.out.ext (by repeat (first | exact Ext.refl _ | assumption | refine Ext.alloc ?_ _ | refine Ext.drew ?_ | refine Ext.drewN ?_ _ | refine Ext.trans ?_ (by assumption)))) hgr5.out.1 hgr5.out.2 HSP.out; have HP5 := Lib.hid hsp5; have HN5 := Lib.hid (show OwnV shSt w5 w.heap.size 39 v5 (k + 1) (l.reverse.take (k + 1)) by rw [HTR.out]; exact hown5); have hq5 := hx5.out; have HX5 := Lib.hid hq5; have hbw := HBW.out; have y1 := (Below.cell (p := ⟨b, off + k * 4, none⟩) hq5 hbw).trans W1.out; have y2 := (Below.cell (p := ⟨b, off + k * 4 + 1, none⟩) hq5 hbw).trans W2.out; have y3 := (Below.cell (p := ⟨b, off + k * 4 + 2, none⟩) hq5 hbw).trans W3.out; have y4 := (Below.cell (p := ⟨b, off + k * 4 + 3, none⟩) hq5 hbw).trans W4.out; have yz := Nat.lt_of_lt_of_le hbw (Below.size hq5); clear hsp5 hown5 hgr5)))))
        all_goals
          go_roundw
          case rel => exact ⟨v6, v5, k + 1, rfl, rfl, by go_num, by omega, HN6, Lib.hid HP6.out.1, Lib.hid (fun b hb e9 => HP6.out.2 b e9 hb), HX6⟩
          case measure => simp [intOf]; omega
      have HSW := Lib.hid (show swapK s = s by rw [swapK, if_neg e1, if_neg e2])
      obtain ⟨s1, s2, s3, s4⟩ := s
      have W1 := Lib.hid c1'
      have W2 := Lib.hid c2'
      have W3 := Lib.hid c3'
      have W4 := Lib.hid c4'
      have hn1 := run_st_eq e1
      have hn2 := run_st_eq e2
      clear c1' c2' c3' c4' e1 e2
      simp only at c1 c2 c3 c4
      go_wp2_with (first
        | (at_builtin; (first | (refine wpList_append_vecsB (S := shSt) (w := w) (L := (l.take k).map swapK) (k := k) (m := 1) (c := 1) (xs := [⟨s1, s2, s3, s4⟩]) 35 39 (.agg #[.int .u8 0, .bool false, .int .i64 0, .int .i64 0]) 24 (by rfl) (by rfl) Tryz.underlying35 info_st (by rfl) (by omega) (by rfl) (by rfl) (HP5.out.1.ext (by repeat (first | exact Ext.refl _ | assumption | refine Ext.alloc ?_ _ | refine Ext.drew ?_ | refine Ext.drewN ?_ _ | refine Ext.trans ?_ (by assumption)))) (HX5.out.trans (by repeat (first | exact Ext.refl _ | assumption | refine Ext.alloc ?_ _ | refine Ext.drew ?_ | refine Ext.drewN ?_ _ | refine Ext.trans ?_ (by assumption)))) (Vec.lit2 (by simp) rfl rfl) (by omega) ?_; intro v6 w6 hown6 hx6 hgr6; have hsp6 := sep_step (HN5.out.ext (by repeat (first | exact Ext.refl _ | assumption | refine Ext.alloc ?_ _ | refine Ext.drew ?_ | refine Ext.drewN ?_ _ | refine Ext.trans ?_ (by assumption)))) hgr6.out.1 hgr6.out.2 (fun b hb e9 => HP5.out.2 b e9 hb); have HP6 := Lib.hid hsp6; have HN6 := Lib.hid (show OwnV shSt w6 w.heap.size 39 v6 (k + 1) ((l.take (k + 1)).map swapK) by rw [HTM.out, HSW.out]; exact hown6); have HX6 := Lib.hid hx6.out; clear hsp6 hown6 hgr6) | (go_loud (refine wpList_append_vecsB (S := shSt) (w := w) (L := l.reverse.take k) (k := k) (m := 1) (c := 1) (xs := [⟨r1, r2, r3, r4⟩]) 35 39 (.agg #[.int .u8 0, .bool false, .int .i64 0, .int .i64 0]) 24 (by rfl) (by rfl) Tryz.underlying35 info_st (by rfl) (by omega) (by rfl) (by rfl) (HO2.out.ext (by repeat (first | exact Ext.refl _ | assumption | refine Ext.alloc ?_ _ | refine Ext.drew ?_ | refine Ext.drewN ?_ _ | refine Ext.trans ?_ (by assumption)))) (HE.out.trans (by repeat (first | exact Ext.refl _ | assumption | refine Ext.alloc ?_ _ | refine Ext.drew ?_ | refine Ext.drewN ?_ _ | refine Ext.trans ?_ (by assumption)))) (Vec.lit2 (by simp) rfl rfl) (by omega) ?_; intro v5 w5 hown5 hx5 hgr5; have hsp5 := sep_step (HO1.out.ext (by repeat (first | exact Ext.refl _ | assumption | refine Ext.alloc ?_ _ | refine Ext.drew ?_ | refine Ext.drewN ?_ _ | refine Ext.trans ?_ (by assumption)))) hgr5.out.1 hgr5.out.2 HSP.out; have HP5 := Lib.hid hsp5; have HN5 := Lib.hid (show OwnV shSt w5 w.heap.size 39 v5 (k + 1) (l.reverse.take (k + 1)) by rw [HTR.out]; exact hown5); have hq5 := hx5.out; have HX5 := Lib.hid hq5; have hbw := HBW.out; have y1 := (Below.cell (p := ⟨b, off + k * 4, none⟩) hq5 hbw).trans W1.out; have y2 := (Below.cell (p := ⟨b, off + k * 4 + 1, none⟩) hq5 hbw).trans W2.out; have y3 := (Below.cell (p := ⟨b, off + k * 4 + 2, none⟩) hq5 hbw).trans W3.out; have y4 := (Below.cell (p := ⟨b, off + k * 4 + 3, none⟩) hq5 hbw).trans W4.out; have yz := Nat.lt_of_lt_of_le hbw (Below.size hq5); clear hsp5 hown5 hgr5)))))
      all_goals
        go_roundw
        case rel => exact ⟨v6, v5, k + 1, rfl, rfl, by go_num, by omega, HN6, Lib.hid HP6.out.1, Lib.hid (fun b hb e9 => HP6.out.2 b e9 hb), HX6⟩
        case measure => simp [intOf]; omega
    · obtain rfl : k = n := by omega
      have hlr := HLL.out
      have h1 : (l.take k).map swapK = l.map swapK := by rw [List.take_of_length_le (by omega)]
      have h2 : l.reverse.take k = l.reverse := by rw [List.take_of_length_le (by simp; omega)]
      obtain ⟨A1, c1, rfl, hv1⟩ := own_vec HO1.out
      obtain ⟨A2, c2, rfl, hv2⟩ := own_vec HO2.out
      rw [h1] at hv1
      rw [h2] at hv2
      have HV1 := Lib.hid hv1
      have HV2 := Lib.hid hv2
      obtain ⟨K, hK⟩ : ∃ x, (findT l).size = x := ⟨_, rfl⟩
      have hKl := find_len l
      have hK1 : (findT (l.map swapK)).size = K := (find_map swap_swap l).trans hK
      have hK2 : (findT l.reverse).size = K := (find_rev l).trans hK
      rw [hK, HLL.out] at hKl
      have HA1 := Lib.hid (swap_all hal)
      have HA2 := Lib.hid (rev_all hal)
      have g1 : (K : Int) ≤ (k : Int) := by omega
      clear hv1 hv2 h1 h2 HO1 HO2 HSP
      go_wp2_with (first
        | (go_at_call 17; (first
          | ((with_reducible refine (size_c (HV1.out.ext (by repeat (first | exact Ext.refl _ | assumption | refine Ext.alloc ?_ _ | refine Ext.drew ?_ | refine Ext.drewN ?_ _ | refine Ext.trans ?_ (by assumption)))) HA1.out (by omega) hK1).mono ?_); rintro e w7 ⟨rfl, hq7⟩)
          | ((with_reducible refine (size_c (HV2.out.ext (by repeat (first | exact Ext.refl _ | assumption | refine Ext.alloc ?_ _ | refine Ext.drew ?_ | refine Ext.drewN ?_ _ | refine Ext.trans ?_ (by assumption)))) HA2.out (by omega) hK2).mono ?_); rintro e w8 ⟨rfl, hq8⟩)
          | (go_loud ((with_reducible refine (size_c (HL.out.ext (HE.out.trans (by repeat (first | exact Ext.refl _ | assumption | refine Ext.alloc ?_ _ | refine Ext.drew ?_ | refine Ext.drewN ?_ _ | refine Ext.trans ?_ (by assumption))))) hal (by omega) hK).mono ?_); rintro e w9 ⟨rfl, hq9⟩)))))
      all_goals (go_ret; exact ⟨by first | rfl | simp, HE.out.trans (by repeat (first | exact Ext.refl _ | assumption | refine Ext.alloc ?_ _ | refine Ext.drew ?_ | refine Ext.drewN ?_ _ | refine Ext.trans ?_ (by assumption)))⟩)

set_option maxRecDepth 100000 in
theorem shortestTurns_lifted (os : Os) (started : os.Started) (H : Type) (enc : TypeId × Value → H) :
    ReturnsInHanded {} Tryz.checked os 4 .any (fun w args => (Rows.shortestTurnsSpec.pre enc Tryz.prog Tryz.f4 [] false w args ∧ laidMetH Tryz.prog [("math/bits.deBruijn32tab", Rows.laid_math_bits_deBruijn32tab), ("math/bits.deBruijn64tab", Rows.laid_math_bits_deBruijn64tab), ("internal/strconv.uint64pow10", Rows.laid_internal_strconv_uint64pow10), ("unicode/utf8.acceptRanges", Rows.laid_unicode_utf8_acceptRanges), ("strconv.ErrRange", Rows.laid_strconv_ErrRange), ("strconv.ErrSyntax", Rows.laid_strconv_ErrSyntax), ("unicode/utf8.first", Rows.laid_unicode_utf8_first)] w) ∧ sizedMet enc Tryz.prog Tryz.f4 (OpenSpec.ofChange Rows.shortestTurnsSpec) false w args)
      (Rows.shortestTurnsSpec.post enc Tryz.prog Tryz.f4 false true false false) := by
  refine returns_laid (C := Tryz.checked) (X := fun w _ => laidMetH Tryz.prog [("math/bits.deBruijn32tab", Rows.laid_math_bits_deBruijn32tab), ("math/bits.deBruijn64tab", Rows.laid_math_bits_deBruijn64tab), ("internal/strconv.uint64pow10", Rows.laid_internal_strconv_uint64pow10), ("unicode/utf8.acceptRanges", Rows.laid_unicode_utf8_acceptRanges), ("strconv.ErrRange", Rows.laid_strconv_ErrRange), ("strconv.ErrSyntax", Rows.laid_strconv_ErrSyntax), ("unicode/utf8.first", Rows.laid_unicode_utf8_first)] w) (fun _ _ _ hh h => h.of_heap hh) own started (by kernel_rfl) Tryz.func4
    (ChangeSpec.witness_shaped (enc := enc) (C := Tryz.checked) (os := os) (X := fun w _ => laidMetH Tryz.prog [("math/bits.deBruijn32tab", Rows.laid_math_bits_deBruijn32tab), ("math/bits.deBruijn64tab", Rows.laid_math_bits_deBruijn64tab), ("internal/strconv.uint64pow10", Rows.laid_internal_strconv_uint64pow10), ("unicode/utf8.acceptRanges", Rows.laid_unicode_utf8_acceptRanges), ("strconv.ErrRange", Rows.laid_strconv_ErrRange), ("strconv.ErrSyntax", Rows.laid_strconv_ErrSyntax), ("unicode/utf8.first", Rows.laid_unicode_utf8_first)] w) false (World.laidAll Tryz.prog os [("math/bits.deBruijn32tab", Rows.laid_math_bits_deBruijn32tab), ("math/bits.deBruijn64tab", Rows.laid_math_bits_deBruijn64tab), ("internal/strconv.uint64pow10", Rows.laid_internal_strconv_uint64pow10), ("unicode/utf8.acceptRanges", Rows.laid_unicode_utf8_acceptRanges), ("strconv.ErrRange", Rows.laid_strconv_ErrRange), ("strconv.ErrSyntax", Rows.laid_strconv_ErrSyntax), ("unicode/utf8.first", Rows.laid_unicode_utf8_first)]) #[.slice none 0 0] 8 (World.laidAll_os _ _ _)
      (World.shaped_of_ZipB (by kernel_rfl) (by kernel_rfl)) (by kernel_rfl) (by kernel_rfl) (by kernel_rfl)
      (by rw [MakeChecks.laidMetH_plain _ _ _ (by kernel_rfl)]; exact laidMet_laidAll _ (by kernel_rfl) (by kernel_rfl))) ?_
  intro W base args ds gs before hval0 hW hL hsh
  have hval : ∀ (j : Nat) t v, Tryz.f4.params[j]? = some t → args[j]? = some v → Value.okWide Tryz.prog W .any base t v := hval0
  have hW' := hW
  obtain ⟨p, q, hA0, hV, rfl, hfz, hnd⟩ := hW
  have hA : DataW.TrodAll enc Tryz.prog W 0 (fun _ => true) true Tryz.f4.params.toList args.toList ds p := hA0
  rw [Tryz.params4] at hA hval
  obtain ⟨v0, vs0, d0, ds0, p0, q0, hargs, rfl, rfl, h0, r0⟩ := trodAll_cons hA
  obtain ⟨rfl, rfl, rfl⟩ := trodAll_nil r0
  obtain rfl : args = #[v0] := by cases args; simp_all
  obtain ⟨rfl, rfl⟩ := trodVars_none hV
  obtain ⟨Aa, na, ca, a, rfl, hia, hma, hya⟩ := open_sts_arg (hval 0 35 v0 rfl rfl) h0
  rw [MakeChecks.laidMetH_plain _ _ _ (by kernel_rfl)] at hL
  have hG := glob_of hL hsh
  refine (shortestTurns_walk na ca Aa a W hia hma hG).mono fun e W' ⟨he, hg⟩ => ?_
  subst he
  exact ⟨_, rfl, law_post laid_out rfl Tryz.underlying4 (by kernel_rfl) rfl hW' rfl hg⟩

theorem shortestTurns_holds : Rows.ShortestTurnsSaid :=
  OpenClaim.holds_of_wide 4 Tryz.f4 rfl rfl rfl rfl rfl rfl rfl ⟨rfl, rfl, rfl, rfl, rfl⟩ rfl rfl rfl rfl rfl (by kernel_rfl) Tryz.func4 (by kernel_rfl)
    (of_decide_eq_true (by kernel_rfl)) (by unfold Func.isWrapper; first | (rw [if_pos (by decide +kernel)]; kernel_rfl) | (rw [if_neg (by decide +kernel)]; exact ⟨rfl, rfl⟩))
    (fun os started H enc _ => shortestTurns_lifted os started H enc)

theorem shortestTurns_card : Rows.ShortestTurnsCardSaid :=
  Claim7.holds_tied_plain_at .later [] [.data, .data, .data, .data, .sentinel, .sentinel, .pinned] true (true, "e5f9bd0f772c11d510c8057603114c1f06b52d64d41fd05283189a068ebb2edc") true
    shortestTurns_holds (fun _ h => by cases h) (by kernel_rfl) (fun _ h => by cases h) shortestTurns_row_tie rfl ⟨rfl, rfl⟩ (by kernel_rfl) rfl
    (fun f fn hf hfn => by
      obtain rfl : f = 4 := Option.some.inj ((show Tryz.prog.funcNamed "raddle/raddlelaw42.ShortestTurns" = some 4 by kernel_rfl).symm.trans hf) |>.symm
      obtain rfl : fn = Tryz.f4 := (Option.some.inj (Tryz.func4.symm.trans hfn)).symm
      exact ⟨by kernel_rfl, fun j t ht => by
        rw [Tryz.params4] at ht
        have hm : t ∈ [35] := by simpa using Array.mem_of_getElem? ht
        have hall : ([35].all fun u => !Tryz.prog.wantsStandIn u) = true := by kernel_rfl
        exact (show Tryz.prog.wantsStandIn t = false by simpa using List.all_eq_true.1 hall t hm)⟩)
    (by kernel_rfl)
end Go.Proofs.YtfbfkoeaihknoaaGreatDoor
