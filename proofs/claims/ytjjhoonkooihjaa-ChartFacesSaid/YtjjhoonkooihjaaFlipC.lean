/- The reference's Flip of charts. -/
import Derived.Test.YtjjhoonkooihjaaFlipB
namespace Go.Proofs.Ytjjhoonkooihjaa
open Go.RowKit Go.ChangeShapes Go.WideShapes Go.Joins
set_option maxRecDepth 100000 in
set_option maxHeartbeats 8000000 in
theorem rflip_any (s : Int) (A : Option Addr) (m c : Nat) (la : List Ro) (w : World) (ha : Rws w (fun _ => True) A m la) :
    Calls Try.prog 20 #[.agg #[.int .i64 s, .slice A m c]] w (ChR (if chkC s la = 0 then s else 0) (if chkC s la = 0 then flipL la else []) (chkC s la) w) := by
  have HLA := Lib.hid ha.len
  have HA := Lib.hid ha
  clear ha
  have hB0 := Lib.hid (show Ext w ((w.alloc (.cells #[.int .i64 s, .slice A m c] 24)).alloc (.cells #[.int .i64 0, .slice none 0 0] 24)) from ((Ext.refl _).alloc _).alloc _)
  have hb : Ext ((w.alloc (.cells #[.int .i64 s, .slice A m c] 24)).alloc (.cells #[.int .i64 0, .slice none 0 0] 24)) ((w.alloc (.cells #[.int .i64 s, .slice A m c] 24)).alloc (.cells #[.int .i64 0, .slice none 0 0] 24)) := Ext.refl _
  have hlt2 : w.heap.size < w.heap.size + 1 + 1 := by omega
  obtain ⟨hc, hf, hz⟩ := hb.facts
  have HU0 := Lib.hid (fun (w' : World) (h : Ext ((w.alloc (.cells #[.int .i64 s, .slice A m c] 24)).alloc (.cells #[.int .i64 0, .slice none 0 0] 24)) w') => (show w'.cell? ⟨w.heap.size + 1, 0, none⟩ = some (.int .i64 0) by rw [(Ext.facts h).1 _ _ (by simp only [World.size_alloc]; omega)]; simp [go_sem]))
  have HU1 := Lib.hid (fun (w' : World) (h : Ext ((w.alloc (.cells #[.int .i64 s, .slice A m c] 24)).alloc (.cells #[.int .i64 0, .slice none 0 0] 24)) w') => (show w'.cell? ⟨w.heap.size + 1, 1, none⟩ = some (.slice none 0 0) by rw [(Ext.facts h).1 _ _ (by simp only [World.size_alloc]; omega)]; simp [go_sem]))
  by_cases h1 : chkC s la = 0
  case neg =>
    obtain ⟨x, hx⟩ : ∃ x, chkC s la = x := ⟨_, rfl⟩
    rw [hx] at h1
    rw [hx, if_neg h1, if_neg h1]
    have HC1 := Lib.hid hx
    have hne : (x != 0) = true := by simpa using h1
    clear h1 hx
    go_enter Try.func20, Try.ntmps20
    go_wp2_with (first | (go_at_call 14; ((with_reducible refine (rccheck_any s A m c la _ (HA.out.ext (hB0.out.trans (hb.trans (by repeat (first | exact Ext.refl _ | refine Ext.drew ?_ | refine Ext.drewN ?_ _ | refine Ext.alloc ?_ _)))))).mono ?_); rintro e w1 ⟨rfl, hq1⟩; rw [HC1.out]; replace hb := Ext.via hb hq1 (by repeat (first | exact Ext.refl _ | refine Ext.drew ?_ | refine Ext.drewN ?_ _ | refine Ext.alloc ?_ _)); clear hq1; obtain ⟨hc, hf, hz⟩ := hb.facts)))
    obtain ⟨k0, k1⟩ := res_cells (v0 := .int .i64 0) (v1 := .slice none 0 0) (HU0.out _ hb) (HU1.out _ hb)
    have HX9 := Lib.hid (hB0.out.trans hb)
    clear hc hf hz
    exact bodyPost_ret (v := .tuple #[.agg #[.int .i64 0, .slice none 0 0], .int .i64 x]) (by simp [results, Try.f20, go_sem, k0, k1]) rfl (ChR.no rfl (Below.setCell (Below.setCell HX9.out (by simp) _) (by simp) _))
  rw [if_pos h1, if_pos h1, h1]
  have HC1 := Lib.hid h1
  have hm9 : m ≤ 100 := by rw [← HLA.out]; exact (chk_cells h1).1
  have HCA := Lib.hid (show ∀ k, k < m → (la.getD k ro0).cells.length ≤ 1000 by rw [← HLA.out]; exact (chk_cells h1).2)
  clear h1
  go_enter Try.func20, Try.ntmps20
  go_wp2_with (first | (go_at_call 14; ((with_reducible refine (rccheck_any s A m c la _ (HA.out.ext (hB0.out.trans (hb.trans (by repeat (first | exact Ext.refl _ | refine Ext.drew ?_ | refine Ext.drewN ?_ _ | refine Ext.alloc ?_ _)))))).mono ?_); rintro e w1 ⟨rfl, hq1⟩; rw [HC1.out]; replace hb := Ext.via hb hq1 (by repeat (first | exact Ext.refl _ | refine Ext.drew ?_ | refine Ext.drewN ?_ _ | refine Ext.alloc ?_ _)); clear hq1; obtain ⟨hc, hf, hz⟩ := hb.facts)))
  obtain ⟨hc, hf, hz⟩ := Ext.facts hb
  have z0 : w.heap.size < w1.heap.size := by have := hz w.heap.size (by simp only [World.size_alloc]; omega); exact this
  have z1 : w.heap.size + 1 < w1.heap.size := by have := hz (w.heap.size + 1) (by simp only [World.size_alloc]; omega); exact this
  have m0 : w1.cell? ⟨w.heap.size, 0, none⟩ = some (.int .i64 s) := by rw [hc _ _ (by simp only [World.size_alloc]; omega)]; simp [go_sem]
  have m1 : w1.cell? ⟨w.heap.size, 1, none⟩ = some (.slice A m c) := by rw [hc _ _ (by simp only [World.size_alloc]; omega)]; simp [go_sem]
  have m3 := HU0.out _ hb
  have m4 := HU1.out _ hb
  have m5 : w1.frozen? ⟨w.heap.size + 1, 0, none⟩ = false := by rw [hf _ _ (by simp only [World.size_alloc]; omega)]; simp [go_sem]
  have m6 : w1.frozen? ⟨w.heap.size + 1, 1, none⟩ = false := by rw [hf _ _ (by simp only [World.size_alloc]; omega)]; simp [go_sem]
  have HBQ := Lib.hid hb
  clear hc hf hz hlt2
  have g2 : ¬ (w.heap.size = w1.heap.size) := by omega
  have g3 : ¬ (w1.heap.size = w.heap.size) := by omega
  go_region_held3 (fun w' => w'.cell? ⟨w.heap.size, 0, none⟩ = some (.int .i64 s) ∧ w'.cell? ⟨w.heap.size, 1, none⟩ = some (.slice A m c)) (go_keep)
    (first
      | (go_at_call 7; ((with_reducible refine (rtwin_any A m c la _ (HA.out.ext (hB0.out.trans (HBQ.out.trans (by repeat (first | exact Ext.refl _ | refine Ext.drew ?_ | refine Ext.drewN ?_ _ | refine Ext.alloc ?_ _))))) (by omega) HCA.out).mono ?_); rintro e w4 ⟨V1, rfl, hq4, ho4⟩; (first
          | (have HE4 := Lib.hid (show Ext w1 w4 from Ext.trans (show Ext w1 w1.drew from (Ext.refl w1).drew) hq4); have HO4 := Lib.hid (show OwnR w4 w1.heap.size 34 V1 la.length la from ho4); clear ho4 hq4; obtain ⟨hc, hf, hz⟩ := HE4.out.facts; have hz1 := hz _ z0; have hz2 := hz _ z1)
          | (have hq5 : Ext (w1.alloc (.cells #[.int .i64 0, .slice none 0 0] 24)) w4 := (Ext.refl (w1.alloc (.cells #[.int .i64 0, .slice none 0 0] 24))).drew.trans hq4; have HE4 := Lib.hid (show Ext w1 w4 from ((Ext.refl w1).alloc _).trans hq5); have HO4 := Lib.hid (show OwnR w4 (w1.heap.size + 1) 34 V1 la.length la by have h9 := ho4; rw [show ((w1.alloc (.cells #[.int .i64 0, .slice none 0 0] 24)).drew).heap.size = w1.heap.size + 1 from World.size_alloc _ _] at h9; exact h9); clear ho4 hq4; obtain ⟨hc, hf, hz⟩ := HE4.out.facts; have hz1 := hz _ z0; have hz2 := hz _ z1; have k0 : w4.cell? ⟨w1.heap.size, 0, none⟩ = some (.int .i64 0) := (by rw [(Ext.facts hq5).1 _ _ (by simp)]; simp [go_sem]); have k1 : w4.cell? ⟨w1.heap.size, 1, none⟩ = some (.slice none 0 0) := (by rw [(Ext.facts hq5).1 _ _ (by simp)]; simp [go_sem]); have k2 : w4.frozen? ⟨w1.heap.size, 0, none⟩ = false := (by rw [(Ext.facts hq5).2.1 _ _ (by simp)]; simp [go_sem]); have k3 : w4.frozen? ⟨w1.heap.size, 1, none⟩ = false := (by rw [(Ext.facts hq5).2.1 _ _ (by simp)]; simp [go_sem]); clear hq5)); obtain ⟨raws, hraw1, hraw2⟩ := HO4.out; obtain ⟨A4, c4, rfl, hv4, hb4⟩ := own_vecB hraw1; rw [HLA.out] at hraw1 hraw2; rw [HLA.out]; have HV4 := Lib.hid hraw1; have HRO4 := Lib.hid hraw2; clear hraw1 hraw2 hv4 hb4)))
  · obtain ⟨wl, hwl⟩ : ∃ wl, w4.alloc (.cells #[.int .i64 s, .slice A4 m c4] 24) = wl := ⟨_, rfl⟩
    have hzl : w4.heap.size ≤ wl.heap.size := by rw [← hwl]; simp
    have n3 := (hc _ 0 z1).trans m3
    have n4 := (hc _ 1 z1).trans m4
    have n5 := (hf _ 0 z1).trans m5
    have n6 := (hf _ 1 z1).trans m6
    have HOT := Lib.hid (show ∀ b o, b < w4.heap.size → b ≠ w4.heap.size → wl.cell? ⟨b, o, none⟩ = w4.cell? ⟨b, o, none⟩ ∧ wl.frozen? ⟨b, o, none⟩ = w4.frozen? ⟨b, o, none⟩ from fun b o hb9 hne => by rw [← hwl]; exact ⟨Below.cell (p := ⟨b, o, none⟩) ((Ext.refl w4).alloc _) hb9, Ext.frozenAt ((Ext.refl w4).alloc _) ⟨b, o, none⟩ hb9⟩)
    have b0 : wl.cell? ⟨w4.heap.size, 0, none⟩ = some (.int .i64 s) := by rw [← hwl]; simp [go_sem]
    have b1 : wl.cell? ⟨w4.heap.size, 1, none⟩ = some (.slice A4 m c4) := by rw [← hwl]; simp [go_sem]
    have b2 : wl.cell? ⟨w.heap.size + 1, 0, none⟩ = some (.int .i64 0) := (HOT.out _ _ hz2 (by omega)).1.trans n3
    have b3 : wl.cell? ⟨w.heap.size + 1, 1, none⟩ = some (.slice none 0 0) := (HOT.out _ _ hz2 (by omega)).1.trans n4
    have b4 : wl.frozen? ⟨w.heap.size + 1, 0, none⟩ = false := (HOT.out _ _ hz2 (by omega)).2.trans n5
    have b5 : wl.frozen? ⟨w.heap.size + 1, 1, none⟩ = false := (HOT.out _ _ hz2 (by omega)).2.trans n6
    have HK := Lib.hid (show ∀ b o, b < w4.heap.size → w1.heap.size ≤ b → wl.cell? ⟨b, o, none⟩ = w4.cell? ⟨b, o, none⟩ from fun b o hb9 hB => (HOT.out b o hb9 (by omega)).1)
    have HKF := Lib.hid (show ∀ g o, g < w4.heap.size → w1.heap.size ≤ g → wl.frozen? ⟨g, o, none⟩ = w4.frozen? ⟨g, o, none⟩ from fun g o hb9 hB => (HOT.out g o hb9 (by omega)).2)
    have HNP := Lib.hid (show ∀ b, (b = w4.heap.size ∨ b = w.heap.size + 1) → ∀ g off, A4 = some ⟨g, off, none⟩ → b ≠ g from fun b hb9 g off e9 => by
      have h9 := HO4.out.blk g (by rw [e9]; rfl)
      omega)
    have HWE := Lib.hid (show Ext w wl by rw [← hwl]; exact (hB0.out.trans (HBQ.out.trans HE4.out)).alloc _)
    have hpB : w1.heap.size ≤ w1.heap.size := by omega
    rw [hwl]
    clear hwl n3 n4 n5 n6 m0 m1 m3 m4 m5 m6 hc hf hz
    go_wp2
    have HVL := Lib.hid (show Vec shRaw wl A4 m raws from (own_vecB HV4.out).elim fun A' h => h.elim fun c' h => by
      obtain ⟨e9, hv9, hbl9⟩ := h
      cases e9
      exact hv9.keepK (K := fun b => w1.heap.size ≤ b) hbl9 hzl (fun b hb9 hB o => HK.out b o hb9 hB))
    go_loopw [5] (fun i wr => ∃ (k : Nat), i = .int .i64 k ∧ k ≤ m ∧ Hid (FlI wl A4 m raws k wr) ∧ Hid (Ext w wr)) (fun i _ => m - (intOf i).toNat)
    case atStart => exact ⟨0, rfl, Nat.zero_le _, Lib.hid (FlI.start HVL.out), HWE⟩
    case round =>
      obtain ⟨k, rfl, hk, HI, HXE⟩ := hrel
      have r0 : wr.cell? ⟨w4.heap.size, 0, none⟩ = some (.int .i64 s) := (HI.out.2.1 _ _ (HNP.out _ (.inl rfl))).trans b0
      have r1 : wr.cell? ⟨w4.heap.size, 1, none⟩ = some (.slice A4 m c4) := (HI.out.2.1 _ _ (HNP.out _ (.inl rfl))).trans b1
      by_cases hlt : k < m
      · obtain ⟨g, rfl, hgB, hgl, hgf⟩ := own_row HV4.out (by omega)
        have v0 := vec_side HI.out.2.2.2 hlt
        have v1 : wr.frozen? ⟨g, 0 + k * 2, none⟩ = false := (HI.out.2.2.1 _).trans ((HKF.out g _ hgl hgB).trans (hgf _))
        simp only [Nat.zero_add] at v0 v1
        have q0 : (0 : Int) ≤ (k : Int) := by omega
        have q1 : (k : Int) < (m : Int) := by omega
        have HS := Lib.hid (HI.out.step hlt)
        have HSX := Lib.hid (show Ext w (wr.setCell ⟨g, 0 + k * 2, none⟩ (.bool (!(raws.getD k raw0).b))) from Below.setCell HXE.out (by simp; omega) _)
        generalize (raws.getD k raw0).b = bb at *
        go_wp2
        go_region
        all_goals go_wp2
        all_goals go_roundw
        all_goals first
          | (simp [intOf]; omega)
          | exact ⟨k + 1, by go_num, by omega, Lib.hid (by have h9 := HS.out; simp only [Nat.zero_add] at h9; exact h9), Lib.hid (by have h9 := HSX.out; simp only [Nat.zero_add] at h9; first | exact h9 | exact Ext.drew h9)⟩
      · obtain rfl : k = m := by omega
        have y0 : wr.cell? ⟨w.heap.size + 1, 0, none⟩ = some (.int .i64 0) := (HI.out.2.1 _ _ (HNP.out _ (.inr rfl))).trans b2
        have y1 : wr.cell? ⟨w.heap.size + 1, 1, none⟩ = some (.slice none 0 0) := (HI.out.2.1 _ _ (HNP.out _ (.inr rfl))).trans b3
        have y2 : wr.frozen? ⟨w.heap.size + 1, 0, none⟩ = false := (HI.out.2.2.1 _).trans b4
        have y3 : wr.frozen? ⟨w.heap.size + 1, 1, none⟩ = false := (HI.out.2.2.1 _).trans b5
        have HRF := Lib.hid (show Rws wr (fun b => w1.heap.size ≤ b) A4 k (flipL la) from FlI.rws HI.out HV4.out HRO4.out hzl HK.out (Nat.le_refl _) (by unfold maxLen; omega))
        go_wp2
        obtain ⟨x0, x1⟩ := res_cells (v0 := .int .i64 s) (v1 := .slice A4 k c4) y0 y1
        have HR9 := Lib.hid (res_rws (g := w.heap.size + 1) (v0 := .int .i64 s) (v1 := .slice A4 k c4) HRF.out (by omega) (by omega : w.heap.size ≤ w1.heap.size))
        exact bodyPost_ret (v := .tuple #[.agg #[.int .i64 s, .slice A4 k c4], .int .i64 0]) (by simp [results, Try.f20, go_sem, x0, x1]) rfl ⟨A4, _, c4, rfl, Below.setCell (Below.setCell HXE.out (by simp) _) (by simp) _, HR9.out⟩
  · obtain ⟨wl, hwl⟩ : ∃ wl, (w4.setCell ⟨w1.heap.size, 0, none⟩ (.int .i64 s)).setCell ⟨w1.heap.size, 1, none⟩ (.slice A4 m c4) = wl := ⟨_, rfl⟩
    have hzl : w4.heap.size ≤ wl.heap.size := by rw [← hwl]; simp
    have n3 := (hc _ 0 z1).trans m3
    have n4 := (hc _ 1 z1).trans m4
    have n5 := (hf _ 0 z1).trans m5
    have n6 := (hf _ 1 z1).trans m6
    have HOT := Lib.hid (show ∀ b o, b < w4.heap.size → b ≠ w1.heap.size → wl.cell? ⟨b, o, none⟩ = w4.cell? ⟨b, o, none⟩ ∧ wl.frozen? ⟨b, o, none⟩ = w4.frozen? ⟨b, o, none⟩ from fun b o hb9 hne => by rw [← hwl]; exact ⟨(World.cell?_setCell_other _ _ _ _ (by intro e9; cases e9; exact hne rfl)).trans (World.cell?_setCell_other _ _ _ _ (by intro e9; cases e9; exact hne rfl)), (World.frozen?_setCell _ _ _ _).trans (World.frozen?_setCell _ _ _ _)⟩)
    have b0 : wl.cell? ⟨w1.heap.size, 0, none⟩ = some (.int .i64 s) := by rw [← hwl]; exact (World.cell?_setCell_other _ _ _ _ (by simp)).trans (World.cell?_setCell_same _ _ _ k0)
    have b1 : wl.cell? ⟨w1.heap.size, 1, none⟩ = some (.slice A4 m c4) := by rw [← hwl]; exact World.cell?_setCell_same _ _ _ ((World.cell?_setCell_other _ _ _ _ (by simp)).trans k1)
    have b2 : wl.cell? ⟨w.heap.size + 1, 0, none⟩ = some (.int .i64 0) := (HOT.out _ _ hz2 (by omega)).1.trans n3
    have b3 : wl.cell? ⟨w.heap.size + 1, 1, none⟩ = some (.slice none 0 0) := (HOT.out _ _ hz2 (by omega)).1.trans n4
    have b4 : wl.frozen? ⟨w.heap.size + 1, 0, none⟩ = false := (HOT.out _ _ hz2 (by omega)).2.trans n5
    have b5 : wl.frozen? ⟨w.heap.size + 1, 1, none⟩ = false := (HOT.out _ _ hz2 (by omega)).2.trans n6
    have HK := Lib.hid (show ∀ b o, b < w4.heap.size → w1.heap.size + 1 ≤ b → wl.cell? ⟨b, o, none⟩ = w4.cell? ⟨b, o, none⟩ from fun b o hb9 hB => (HOT.out b o hb9 (by omega)).1)
    have HKF := Lib.hid (show ∀ g o, g < w4.heap.size → w1.heap.size + 1 ≤ g → wl.frozen? ⟨g, o, none⟩ = w4.frozen? ⟨g, o, none⟩ from fun g o hb9 hB => (HOT.out g o hb9 (by omega)).2)
    have HNP := Lib.hid (show ∀ b, (b = w1.heap.size ∨ b = w.heap.size + 1) → ∀ g off, A4 = some ⟨g, off, none⟩ → b ≠ g from fun b hb9 g off e9 => by
      have h9 := HO4.out.blk g (by rw [e9]; rfl)
      omega)
    have HWE := Lib.hid (show Ext w wl by rw [← hwl]; exact Below.setCell (Below.setCell (hB0.out.trans (HBQ.out.trans HE4.out)) (by simp; omega) _) (by simp; omega) _)
    have hpB : w1.heap.size ≤ w1.heap.size := by omega
    rw [hwl]
    clear hwl n3 n4 n5 n6 m0 m1 m3 m4 m5 m6 hc hf hz
    go_wp2
    have HVL := Lib.hid (show Vec shRaw wl A4 m raws from (own_vecB HV4.out).elim fun A' h => h.elim fun c' h => by
      obtain ⟨e9, hv9, hbl9⟩ := h
      cases e9
      exact hv9.keepK (K := fun b => w1.heap.size + 1 ≤ b) hbl9 hzl (fun b hb9 hB o => HK.out b o hb9 hB))
    go_loopw [5] (fun i wr => ∃ (k : Nat), i = .int .i64 k ∧ k ≤ m ∧ Hid (FlI wl A4 m raws k wr) ∧ Hid (Ext w wr)) (fun i _ => m - (intOf i).toNat)
    case atStart => exact ⟨0, rfl, Nat.zero_le _, Lib.hid (FlI.start HVL.out), HWE⟩
    case round =>
      obtain ⟨k, rfl, hk, HI, HXE⟩ := hrel
      have r0 : wr.cell? ⟨w1.heap.size, 0, none⟩ = some (.int .i64 s) := (HI.out.2.1 _ _ (HNP.out _ (.inl rfl))).trans b0
      have r1 : wr.cell? ⟨w1.heap.size, 1, none⟩ = some (.slice A4 m c4) := (HI.out.2.1 _ _ (HNP.out _ (.inl rfl))).trans b1
      by_cases hlt : k < m
      · obtain ⟨g, rfl, hgB, hgl, hgf⟩ := own_row HV4.out (by omega)
        have v0 := vec_side HI.out.2.2.2 hlt
        have v1 : wr.frozen? ⟨g, 0 + k * 2, none⟩ = false := (HI.out.2.2.1 _).trans ((HKF.out g _ hgl hgB).trans (hgf _))
        simp only [Nat.zero_add] at v0 v1
        have q0 : (0 : Int) ≤ (k : Int) := by omega
        have q1 : (k : Int) < (m : Int) := by omega
        have HS := Lib.hid (HI.out.step hlt)
        have HSX := Lib.hid (show Ext w (wr.setCell ⟨g, 0 + k * 2, none⟩ (.bool (!(raws.getD k raw0).b))) from Below.setCell HXE.out (by simp; omega) _)
        generalize (raws.getD k raw0).b = bb at *
        go_wp2
        go_region
        all_goals go_wp2
        all_goals go_roundw
        all_goals first
          | (simp [intOf]; omega)
          | exact ⟨k + 1, by go_num, by omega, Lib.hid (by have h9 := HS.out; simp only [Nat.zero_add] at h9; exact h9), Lib.hid (by have h9 := HSX.out; simp only [Nat.zero_add] at h9; first | exact h9 | exact Ext.drew h9)⟩
      · obtain rfl : k = m := by omega
        have y0 : wr.cell? ⟨w.heap.size + 1, 0, none⟩ = some (.int .i64 0) := (HI.out.2.1 _ _ (HNP.out _ (.inr rfl))).trans b2
        have y1 : wr.cell? ⟨w.heap.size + 1, 1, none⟩ = some (.slice none 0 0) := (HI.out.2.1 _ _ (HNP.out _ (.inr rfl))).trans b3
        have y2 : wr.frozen? ⟨w.heap.size + 1, 0, none⟩ = false := (HI.out.2.2.1 _).trans b4
        have y3 : wr.frozen? ⟨w.heap.size + 1, 1, none⟩ = false := (HI.out.2.2.1 _).trans b5
        have HRF := Lib.hid (show Rws wr (fun b => w1.heap.size + 1 ≤ b) A4 k (flipL la) from FlI.rws HI.out HV4.out HRO4.out hzl HK.out (Nat.le_refl _) (by unfold maxLen; omega))
        go_wp2
        obtain ⟨x0, x1⟩ := res_cells (v0 := .int .i64 s) (v1 := .slice A4 k c4) y0 y1
        have HR9 := Lib.hid (res_rws (g := w.heap.size + 1) (v0 := .int .i64 s) (v1 := .slice A4 k c4) HRF.out (by omega) (by omega : w.heap.size ≤ w1.heap.size + 1))
        exact bodyPost_ret (v := .tuple #[.agg #[.int .i64 s, .slice A4 k c4], .int .i64 0]) (by simp [results, Try.f20, go_sem, x0, x1]) rfl ⟨A4, _, c4, rfl, Below.setCell (Below.setCell HXE.out (by simp) _) (by simp) _, HR9.out⟩
end Go.Proofs.Ytjjhoonkooihjaa
