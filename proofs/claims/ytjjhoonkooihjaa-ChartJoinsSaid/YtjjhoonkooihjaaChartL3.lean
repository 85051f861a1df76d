/- Join of charts returns what the reference returns, and keeps no cell of its arguments. -/
import Derived.Test.YtjjhoonkooihjaaChartY
import Derived.Test.YtjjhoonkooihjaaChartS
import Derived.Test.YtjjhoonkooihjaaLaw
namespace Go.Proofs.Ytjjhoonkooihjaa
open Go.ChangeShapes Go.WideShapes Go.ChangeAt Go.RowKit Go.Joins
set_option maxRecDepth 100000 in
set_option maxHeartbeats 8000000 in
theorem chartJoins_walk (s : Int) (m c : Nat) (A : Option Addr) (la : List Ro) (w : World) (ha : Rws w (fun _ => True) A m la) (t : Int) (n d : Nat) (B : Option Addr) (lb : List Ro) (hbb : Rws w (fun _ => True) B n lb) :
    Calls Try.prog 3 #[.agg #[.int .i64 s, .slice A m c], .agg #[.int .i64 t, .slice B n d]] w fun e w' => e = .returned (.bool true) ∧ Ext w w' := by
  have hla := ha.len
  have HLA := Lib.hid hla
  have HA := Lib.hid ha
  have HB := Lib.hid hbb
  clear ha hbb hla
  have hB0 := Lib.hid (show Ext w ((w.alloc (.cells #[.int .i64 s, .slice A m c] 24)).alloc (.cells #[.int .i64 t, .slice B n d] 24)) from ((Ext.refl _).alloc _).alloc _)
  have hb : Ext ((w.alloc (.cells #[.int .i64 s, .slice A m c] 24)).alloc (.cells #[.int .i64 t, .slice B n d] 24)) ((w.alloc (.cells #[.int .i64 s, .slice A m c] 24)).alloc (.cells #[.int .i64 t, .slice B n d] 24)) := Ext.refl _
  have hlt2 : w.heap.size < w.heap.size + 1 + 1 := by omega
  obtain ⟨hc, hf, hz⟩ := hb.facts
  cases hga : greatC la
  case true =>
    have HGA := Lib.hid hga
    clear hga
    go_enter Try.func3, Try.ntmps3
    go_wp2_with (first | (go_at_call 6; ((with_reducible refine (cgreat_any s A m c la _ (HA.out.ext (hB0.out.trans (hb.trans (by repeat (first | exact Ext.refl _ | refine Ext.drew ?_ | refine Ext.drewN ?_ _ | refine Ext.alloc ?_ _)))))).mono ?_); rintro e w1 ⟨rfl, hq1⟩; replace hb := Ext.via hb hq1 (by repeat (first | exact Ext.refl _ | refine Ext.drew ?_ | refine Ext.drewN ?_ _ | refine Ext.alloc ?_ _)); rw [HGA.out]; obtain ⟨hc, hf, hz⟩ := hb.facts)))
    go_ret
    exact ⟨rfl, hB0.out.trans hb⟩
  have HGA := Lib.hid hga
  have HPA := Lib.hid (great_parts hga)
  clear hga
  cases hgb : greatC lb
  case true =>
    have HGB := Lib.hid hgb
    clear hgb
    go_enter Try.func3, Try.ntmps3
    go_wp2_with (first | (go_at_call 6; (first | ((with_reducible refine (cgreat_any s A m c la _ (HA.out.ext (hB0.out.trans (hb.trans (by repeat (first | exact Ext.refl _ | refine Ext.drew ?_ | refine Ext.drewN ?_ _ | refine Ext.alloc ?_ _)))))).mono ?_); rintro e w1 ⟨rfl, hq1⟩; replace hb := Ext.via hb hq1 (by repeat (first | exact Ext.refl _ | refine Ext.drew ?_ | refine Ext.drewN ?_ _ | refine Ext.alloc ?_ _)); obtain ⟨hc, hf, hz⟩ := hb.facts; rw [HGA.out]) | ((with_reducible refine (cgreat_any t B n d lb _ (HB.out.ext (hB0.out.trans (hb.trans (by repeat (first | exact Ext.refl _ | refine Ext.drew ?_ | refine Ext.drewN ?_ _ | refine Ext.alloc ?_ _)))))).mono ?_); rintro e w2 ⟨rfl, hq2⟩; replace hb := Ext.via hb hq2 (by repeat (first | exact Ext.refl _ | refine Ext.drew ?_ | refine Ext.drewN ?_ _ | refine Ext.alloc ?_ _)); obtain ⟨hc, hf, hz⟩ := hb.facts; rw [HGB.out]))))
    go_ret
    exact ⟨rfl, hB0.out.trans hb⟩
  have HGB := Lib.hid hgb
  clear hgb
  have hm9 : m ≤ 1000 := by have := HPA.out.1; rw [HLA.out] at this; omega
  have HCA := Lib.hid (show ∀ k, k < m → (la.getD k ro0).cells.length ≤ 1000 from fun k hk => by have := great_len (HPA.out.2 k (by rw [HLA.out]; exact hk)); omega)
  obtain ⟨js, jl, je, hJ⟩ : ∃ js jl je, ∀ w e w', JoinR s la t lb w e w' → ChR js jl je w e w' := ⟨_, _, _, fun _ _ _ h => h⟩
  have HJ := Lib.hid hJ
  clear hJ
  go_enter Try.func3, Try.ntmps3
  go_wp2_with (first | (go_at_call 6; (first | ((with_reducible refine (cgreat_any s A m c la _ (HA.out.ext (hB0.out.trans (hb.trans (by repeat (first | exact Ext.refl _ | refine Ext.drew ?_ | refine Ext.drewN ?_ _ | refine Ext.alloc ?_ _)))))).mono ?_); rintro e w1 ⟨rfl, hq1⟩; replace hb := Ext.via hb hq1 (by repeat (first | exact Ext.refl _ | refine Ext.drew ?_ | refine Ext.drewN ?_ _ | refine Ext.alloc ?_ _)); obtain ⟨hc, hf, hz⟩ := hb.facts; rw [HGA.out]) | ((with_reducible refine (cgreat_any t B n d lb _ (HB.out.ext (hB0.out.trans (hb.trans (by repeat (first | exact Ext.refl _ | refine Ext.drew ?_ | refine Ext.drewN ?_ _ | refine Ext.alloc ?_ _)))))).mono ?_); rintro e w2 ⟨rfl, hq2⟩; replace hb := Ext.via hb hq2 (by repeat (first | exact Ext.refl _ | refine Ext.drew ?_ | refine Ext.drewN ?_ _ | refine Ext.alloc ?_ _)); obtain ⟨hc, hf, hz⟩ := hb.facts; rw [HGB.out]))))
  clear hq1 hq2
  have hB1 := Lib.hid hb
  have m0 : w2.cell? ⟨w.heap.size, 0, none⟩ = some (.int .i64 s) := by rw [hc _ _ (by simp only [World.size_alloc]; omega)]; simp [go_sem]
  have m1 : w2.cell? ⟨w.heap.size, 1, none⟩ = some (.slice A m c) := by rw [hc _ _ (by simp only [World.size_alloc]; omega)]; simp [go_sem]
  have m2 : w2.cell? ⟨w.heap.size + 1, 0, none⟩ = some (.int .i64 t) := by rw [hc _ _ (by simp only [World.size_alloc]; omega)]; simp [go_sem]
  have m3 : w2.cell? ⟨w.heap.size + 1, 1, none⟩ = some (.slice B n d) := by rw [hc _ _ (by simp only [World.size_alloc]; omega)]; simp [go_sem]
  have hz9 : w.heap.size + 1 + 1 ≤ w2.heap.size := by have h9 := Below.size hb; simp only [World.size_alloc] at h9; omega
  have z0 : w.heap.size < w2.heap.size := by omega
  have z1 : w.heap.size + 1 < w2.heap.size := by omega
  clear hc hf hz hlt2
  have z2 : ¬ (w.heap.size = w2.heap.size) := by omega
  have z3 : ¬ (w.heap.size + 1 = w2.heap.size) := by omega
  have z4 : ¬ (w2.heap.size = w.heap.size) := by omega
  have z5 : ¬ (w2.heap.size = w.heap.size + 1) := by omega
  go_region_held3 (fun w' => w'.cell? ⟨w.heap.size, 0, none⟩ = some (.int .i64 s) ∧ w'.cell? ⟨w.heap.size, 1, none⟩ = some (.slice A m c) ∧ w'.cell? ⟨w.heap.size + 1, 0, none⟩ = some (.int .i64 t) ∧ w'.cell? ⟨w.heap.size + 1, 1, none⟩ = some (.slice B n d)) (go_keep)
    (first
      | (go_at_call 7; ((with_reducible refine (rtwin_any A m c la _ (HA.out.ext (hB0.out.trans (hb.trans (by repeat (first | exact Ext.refl _ | refine Ext.drew ?_ | refine Ext.drewN ?_ _ | refine Ext.alloc ?_ _))))) (by omega) HCA.out).mono ?_); rintro e w4 ⟨V1, rfl, hq4, ho4⟩; (first
          | (have HE4 := Lib.hid (show Ext w2 w4 from Ext.trans (show Ext w2 w2.drew from (Ext.refl w2).drew) hq4); have HP5 := Lib.hid (show w4.heap.size < w2.heap.size ∨ w4.heap.size ≤ w4.heap.size from .inr (Nat.le_refl _)); have ho5 : OwnR w4 w2.heap.size 34 V1 la.length la := ho4; clear ho4 hq4; have HY4 := Lib.hid (show Ext w4 (w4.alloc (.cells #[.int .i64 0, .slice none 0 0] 24)) from (Ext.refl w4).alloc _); obtain ⟨hc, hf, hz⟩ := HE4.out.facts; have y1 := hz _ z0; have y2 := hz _ z1; have x2 : ¬ (w.heap.size = w4.heap.size) := (by omega); have x3 : ¬ (w.heap.size + 1 = w4.heap.size) := (by omega); have x4 : ¬ (w4.heap.size = w.heap.size) := (by omega); have x5 : ¬ (w4.heap.size = w.heap.size + 1) := (by omega))
          | (have hq5 : Ext (w2.alloc (.cells #[.int .i64 0, .slice none 0 0] 24)) w4 := (Ext.refl (w2.alloc (.cells #[.int .i64 0, .slice none 0 0] 24))).drew.trans hq4; have HE4 := Lib.hid (show Ext w2 w4 from ((Ext.refl w2).alloc _).trans hq5); have HP5 := Lib.hid (show w2.heap.size < w2.heap.size + 1 ∨ w4.heap.size ≤ w2.heap.size from .inl (by omega)); have ho5 : OwnR w4 (w2.heap.size + 1) 34 V1 la.length la := (by have h9 := ho4; rw [show ((w2.alloc (.cells #[.int .i64 0, .slice none 0 0] 24)).drew).heap.size = w2.heap.size + 1 from World.size_alloc _ _] at h9; exact h9); clear ho4 hq4; obtain ⟨hc, hf, hz⟩ := HE4.out.facts; have HY4 := Lib.hid (Ext.refl w4); have k0 : w4.cell? ⟨w2.heap.size, 0, none⟩ = some (.int .i64 0) := (by rw [(Ext.facts hq5).1 _ _ (by simp)]; simp [go_sem]); have k1 : w4.cell? ⟨w2.heap.size, 1, none⟩ = some (.slice none 0 0) := (by rw [(Ext.facts hq5).1 _ _ (by simp)]; simp [go_sem]); have k2 : w4.frozen? ⟨w2.heap.size, 0, none⟩ = false := (by rw [(Ext.facts hq5).2.1 _ _ (by simp)]; simp [go_sem]); have k3 : w4.frozen? ⟨w2.heap.size, 1, none⟩ = false := (by rw [(Ext.facts hq5).2.1 _ _ (by simp)]; simp [go_sem]); clear hq5)); obtain ⟨raws, hraw1, hraw2⟩ := ho5; obtain ⟨A4, c4, rfl, hv4, hb4⟩ := own_vecB hraw1; have HV4 := Lib.hid hraw1; have HRO4 := Lib.hid hraw2; clear hraw1 hraw2 hv4 hb4)))
  · clear hc hf hz
    have hxb : XBox w.heap.size w4.heap.size s A4 la.length c4 la raws (w4.alloc (.cells #[.int .i64 s, .slice A4 la.length c4] 24)) := XBox.mk2 HV4.out HRO4.out (by rw [HLA.out]; unfold maxLen; omega) (by omega)
    have he5 : Ext w2 (w4.alloc (.cells #[.int .i64 s, .slice A4 la.length c4] 24)) := HE4.out.alloc _
    have hpb : w4.heap.size < (w4.alloc (.cells #[.int .i64 s, .slice A4 la.length c4] 24)).heap.size := by simp
    have hpa : w.heap.size + 1 < w4.heap.size := y2
    obtain ⟨ws, hws⟩ : ∃ ws, (w4.alloc (.cells #[.int .i64 s, .slice A4 la.length c4] 24)) = ws := ⟨_, rfl⟩
    rw [hws] at hxb he5 hpb ⊢
    clear hws y1 y2 x2 x3 x4 x5 HV4 HRO4 HP5 HY4 HE4
    generalize w4.heap.size = p5 at *
    have HXB := Lib.hid hxb
    have HE5 := Lib.hid he5
    clear hxb he5
    have b0 := HXB.out.1
    have b1 := HXB.out.2.1
    obtain ⟨hc, hf, hz⟩ := HE5.out.facts
    have b2 := (hc _ 0 z0).trans m0
    have b3 := (hc _ 1 z0).trans m1
    have b4 := (hc _ 0 z1).trans m2
    have b5 := (hc _ 1 z1).trans m3
    have b6 := hz _ z0
    have b7 := hz _ z1
    have b8 : p5 < ws.heap.size := hpb
    clear hc hf hz m0 m1 m2 m3 z2 z3 z4 z5 hb
    go_wp2_with (first
      | (go_at_call 8; ((with_reducible refine (cjoin_any s t A4 B la.length n c4 d la lb _ (HXB.out.rws.ext (by repeat (first | exact Ext.refl _ | refine Ext.drew ?_ | refine Ext.drewN ?_ _ | refine Ext.alloc ?_ _))) (HB.out.ext (hB0.out.trans (hB1.out.trans (HE5.out.trans (by repeat (first | exact Ext.refl _ | refine Ext.drew ?_ | refine Ext.drewN ?_ _ | refine Ext.alloc ?_ _))))))).mono ?_); intro e w5 hr; obtain ⟨A5, n5, c5, rfl, hq5, hr5⟩ := HJ.out _ _ _ hr; have HE6 := Lib.hid (show Ext ws w5 from Ext.trans (by repeat (first | exact Ext.refl _ | refine Ext.drew ?_ | refine Ext.drewN ?_ _ | refine Ext.alloc ?_ _)) hq5); have HR5 := Lib.hid (show Rws w5 (fun b => ws.heap.size ≤ b) A5 n5 jl from hr5); clear hr hq5 hr5; obtain ⟨hc, hf, hz⟩ := HE6.out.facts; have y1 := hz _ b6; have y2 := hz _ b7; have y3 := hz _ b8; have t1 : ¬ (w.heap.size = w5.heap.size) := (by omega); have t2 : ¬ (w.heap.size + 1 = w5.heap.size) := (by omega); have t3 : ¬ (p5 = w5.heap.size) := (by omega); have t4 : ¬ (w5.heap.size = w.heap.size) := (by omega); have t5 : ¬ (w5.heap.size = w.heap.size + 1) := (by omega)))
      | (go_at_call 9; ((with_reducible refine (rjoin_any s t A B m n c d la lb _ (HA.out.ext (hB0.out.trans (hB1.out.trans (HE5.out.trans (HE6.out.trans (by repeat (first | exact Ext.refl _ | refine Ext.drew ?_ | refine Ext.drewN ?_ _ | refine Ext.alloc ?_ _))))))) (HB.out.ext (hB0.out.trans (hB1.out.trans (HE5.out.trans (HE6.out.trans (by repeat (first | exact Ext.refl _ | refine Ext.drew ?_ | refine Ext.drewN ?_ _ | refine Ext.alloc ?_ _)))))))).mono ?_); intro e w6 hr; obtain ⟨A6, n6, c6, rfl, hq6, hr6⟩ := HJ.out _ _ _ hr; have HE7 := Lib.hid (show Ext (w5.alloc (.cells #[.int .i64 js, .slice A5 n5 c5] 24)) w6 from Ext.trans (by repeat (first | exact Ext.refl _ | refine Ext.drew ?_ | refine Ext.drewN ?_ _ | refine Ext.alloc ?_ _)) hq6); have HE8 := Lib.hid (show Ext w5 w6 from ((Ext.refl w5).alloc _).trans HE7.out); have HR6 := Lib.hid (show Rws w6 (fun b => ws.heap.size ≤ b) A6 n6 jl from hr6.mono (fun b _ hb9 => Nat.le_trans (Below.size (HE6.out.trans (by repeat (first | exact Ext.refl _ | refine Ext.drew ?_ | refine Ext.drewN ?_ _ | refine Ext.alloc ?_ _)))) hb9)); clear hr hq6 hr6; have k0 : w6.cell? ⟨w5.heap.size, 0, none⟩ = some (.int .i64 js) := (by rw [(Ext.facts HE7.out).1 _ _ (by simp)]; simp [go_sem]); have k1 : w6.cell? ⟨w5.heap.size, 1, none⟩ = some (.slice A5 n5 c5) := (by rw [(Ext.facts HE7.out).1 _ _ (by simp)]; simp [go_sem]))))
    clear hc hf hz y1 y2 y3 t1 t2 t3 t4 t5
    have HEW := Lib.hid (show Ext ws (w6.alloc (.cells #[.int .i64 js, .slice A6 n6 c6] 24)) from HE6.out.trans (HE8.out.trans ((Ext.refl _).alloc _)))
    have f2 : (w6.alloc (.cells #[.int .i64 js, .slice A6 n6 c6] 24)).cell? ⟨w5.heap.size, 0, none⟩ = some (.int .i64 js) := (Below.cell (p := ⟨w5.heap.size, 0, none⟩) ((Ext.refl w6).alloc _) (World.block_lt_of_cell? w6 _ k0)).trans k0
    have f3 : (w6.alloc (.cells #[.int .i64 js, .slice A6 n6 c6] 24)).cell? ⟨w5.heap.size, 1, none⟩ = some (.slice A5 n5 c5) := (Below.cell (p := ⟨w5.heap.size, 1, none⟩) ((Ext.refl w6).alloc _) (World.block_lt_of_cell? w6 _ k1)).trans k1
    have f4 : (w6.alloc (.cells #[.int .i64 js, .slice A6 n6 c6] 24)).cell? ⟨w6.heap.size, 0, none⟩ = some (.int .i64 js) := by simp [go_sem]
    have f5 : (w6.alloc (.cells #[.int .i64 js, .slice A6 n6 c6] 24)).cell? ⟨w6.heap.size, 1, none⟩ = some (.slice A6 n6 c6) := by simp [go_sem]
    have HR5L := Lib.hid (HR5.out.ext (HE8.out.trans ((Ext.refl w6).alloc (.cells #[.int .i64 js, .slice A6 n6 c6] 24))))
    have HR6L := Lib.hid (HR6.out.ext ((Ext.refl w6).alloc (.cells #[.int .i64 js, .slice A6 n6 c6] 24)))
    have hp6 : ws.heap.size ≤ w5.heap.size := Below.size HE6.out
    have hp8 : ws.heap.size ≤ w6.heap.size := Below.size (HE6.out.trans HE8.out)
    have HEL := Lib.hid (show Ext w (w6.alloc (.cells #[.int .i64 js, .slice A6 n6 c6] 24)) from hB0.out.trans (hB1.out.trans (HE5.out.trans HEW.out)))
    obtain ⟨wl, hwl⟩ : ∃ wl, w6.alloc (.cells #[.int .i64 js, .slice A6 n6 c6] 24) = wl := ⟨_, rfl⟩
    rw [hwl] at HEW f2 f3 f4 f5 HR5L HR6L HEL ⊢
    clear hwl k0 k1 HR5 HR6 HE7 HE8 HE6
    generalize w5.heap.size = p6 at *
    generalize w6.heap.size = p8 at *
    have hl9 : la.length ≤ 1000 := by rw [HLA.out]; exact hm9
    have e2 := World.block_lt_of_cell? wl _ f2
    have e4 := World.block_lt_of_cell? wl _ f4
    have e5 : p5 < wl.heap.size := Nat.lt_of_lt_of_le b8 (Below.size HEW.out)
    have hN5 : ¬ Ux w.heap.size ws.heap.size p5 A4 p5 := fun h => h.2.2.1 rfl
    have hN6 : ¬ Ux w.heap.size ws.heap.size p5 A4 p6 := fun h => by have := h.2.1; omega
    have hN8 : ¬ Ux w.heap.size ws.heap.size p5 A4 p8 := fun h => by have := h.2.1; omega
    have HCX := Lib.hid (fun (wr : World) (h : Zr (Ux w.heap.size ws.heap.size p5 A4) wl wr) => (show wr.cell? ⟨p5, 1, none⟩ = some (.slice A4 la.length c4) ∧ wr.cell? ⟨p6, 0, none⟩ = some (.int .i64 js) ∧ wr.cell? ⟨p6, 1, none⟩ = some (.slice A5 n5 c5) ∧ wr.cell? ⟨p8, 0, none⟩ = some (.int .i64 js) ∧ wr.cell? ⟨p8, 1, none⟩ = some (.slice A6 n6 c6) from
      ⟨(h.2.1 _ _ e5 hN5).trans ((Below.cell (p := ⟨p5, 1, none⟩) HEW.out b8).trans b1), (h.2.1 _ _ e2 hN6).trans f2, (h.2.1 _ _ e2 hN6).trans f3, (h.2.1 _ _ e4 hN8).trans f4, (h.2.1 _ _ e4 hN8).trans f5⟩))
    clear b0 b1 b2 b3 b4 b5 b6 b7 f2 f3 f4 f5 hN6 hN8
    go_loopw [10] (fun i wr => ∃ (k : Nat), i = .int .i64 k ∧ k ≤ la.length ∧ Hid (Ext w wr) ∧ Hid (Zr (Ux w.heap.size ws.heap.size p5 A4) wl wr)) (fun i _ => la.length - (intOf i).toNat)
    case atStart => exact ⟨0, rfl, Nat.zero_le _, HEL, Lib.hid (Zr.refl _ _)⟩
    case round =>
      obtain ⟨k, rfl, hk, HE, HZ⟩ := hrel
      obtain ⟨l1, l2, l3, l4, l5⟩ := HCX.out _ HZ.out
      by_cases hlt : k < la.length
      · obtain ⟨g, off, A', n', c', rfl, hg, hgp, hrow, hm', hcells⟩ := HXB.out.row hlt
        have HCS := Lib.hid hcells
        have hng : ¬ Ux w.heap.size ws.heap.size p5 (some ⟨g, off, none⟩) g := fun h => h.2.2.2 _ _ rfl rfl
        have HRW := Lib.hid (fun (wr : World) (h : Zr (Ux w.heap.size ws.heap.size p5 (some ⟨g, off, none⟩)) wl wr) => (show wr.cell? ⟨g, off + k * 2 + 1, none⟩ = some (.slice A' n' c') from (h.2.1 _ _ (Nat.lt_of_lt_of_le hg (Below.size HEW.out)) hng).trans ((Below.cell (p := ⟨g, off + k * 2 + 1, none⟩) HEW.out hg).trans hrow)))
        clear hcells hrow hng
        have q0 : (0 : Int) ≤ (k : Int) := by omega
        have q1 : (k : Int) < (la.length : Int) := by omega
        unfold maxLen at hm'
        go_wp2
        go_loopw [11] (fun j wi => ∃ (q : Nat), j = .int .i64 q ∧ q ≤ n' ∧ Hid (Ext w wi) ∧ Hid (Zr (Ux w.heap.size ws.heap.size p5 (some ⟨g, off, none⟩)) wl wi)) (fun j _ => n' - (intOf j).toNat)
        case atStart => exact ⟨0, rfl, Nat.zero_le _, HE, HZ⟩
        case round =>
          obtain ⟨q, rfl, hq, HE2, HZ2⟩ := hrel
          obtain ⟨x1, x2, x3, x5, x7⟩ := HCX.out _ HZ2.out
          have x8 := HRW.out _ HZ2.out
          by_cases hlq : q < n'
          · obtain ⟨b, o, u, rfl, hcu, hbs, hlo, hbp, hbg, hfr⟩ := HCS.out q hlq
            have hU : Ux w.heap.size ws.heap.size p5 (some ⟨g, off, none⟩) b := ⟨hlo, hbs, hbp, fun g' off' e => by cases e; exact hbg⟩
            obtain ⟨u9, hu9⟩ := HZ2.out.2.2.2 _ _ ((Below.cell (p := ⟨b, o + q * 4, none⟩) HEW.out hbs).trans hcu)
            have hf9 := (HZ2.out.2.2.1 ⟨b, o + q * 4, none⟩).trans ((Ext.frozenAt HEW.out ⟨b, o + q * 4, none⟩ hbs).trans (hfr _))
            have r0 : (0 : Int) ≤ (q : Int) := by omega
            have r1 : (q : Int) < (n' : Int) := by omega
            clear hcu hfr
            go_wp2
            go_roundw
            case rel => exact ⟨q + 1, by go_num, by omega, Lib.hid (Below.setCell HE2.out hlo _), Lib.hid (HZ2.out.set hU _)⟩
            case measure => simp [intOf]; omega
          · obtain rfl : q = n' := by omega
            go_wp2
            go_roundw
            case rel => exact ⟨k + 1, by go_num, by omega, HE2, HZ2⟩
            case measure => simp [intOf]; omega
      · obtain rfl : k = la.length := by omega
        go_wp2_with (first | (go_at_call 10; ((with_reducible refine (rcsame_any js js A5 A6 n5 n6 c5 c6 jl jl _ ((HZ.out.rws HR5L.out).ext (by repeat (first | exact Ext.refl _ | refine Ext.drew ?_ | refine Ext.drewN ?_ _ | refine Ext.alloc ?_ _))) ((HZ.out.rws HR6L.out).ext (by repeat (first | exact Ext.refl _ | refine Ext.drew ?_ | refine Ext.drewN ?_ _ | refine Ext.alloc ?_ _)))).mono ?_); rintro e w9 ⟨rfl, hq9⟩; rw [sameC_yes]; have HE9 := Lib.hid (show Ext w w9 from HE.out.trans (Ext.trans (by repeat (first | exact Ext.refl _ | refine Ext.drew ?_ | refine Ext.drewN ?_ _ | refine Ext.alloc ?_ _)) hq9)); clear hq9)))
        go_ret
        exact ⟨by simp, HE9.out⟩
  · clear hc hf hz
    have hxb : XBox w.heap.size w2.heap.size s A4 la.length c4 la raws ((w4.setCell ⟨w2.heap.size, 0, none⟩ (.int .i64 s)).setCell ⟨w2.heap.size, 1, none⟩ (.slice A4 la.length c4)) := XBox.mk_ HV4.out HRO4.out (Ext.refl w4) (by rw [HLA.out]; unfold maxLen; omega) (by omega) (.inl (by omega)) k0 k1
    have he5 : Ext w2 ((w4.setCell ⟨w2.heap.size, 0, none⟩ (.int .i64 s)).setCell ⟨w2.heap.size, 1, none⟩ (.slice A4 la.length c4)) := (HE4.out.setCell (by simp) _).setCell (by simp) _
    have hpb : w2.heap.size < ((w4.setCell ⟨w2.heap.size, 0, none⟩ (.int .i64 s)).setCell ⟨w2.heap.size, 1, none⟩ (.slice A4 la.length c4)).heap.size := by simp; exact World.block_lt_of_cell? w4 _ k0
    have hpa : w.heap.size + 1 < w2.heap.size := z1
    obtain ⟨ws, hws⟩ : ∃ ws, ((w4.setCell ⟨w2.heap.size, 0, none⟩ (.int .i64 s)).setCell ⟨w2.heap.size, 1, none⟩ (.slice A4 la.length c4)) = ws := ⟨_, rfl⟩
    rw [hws] at hxb he5 hpb ⊢
    clear hws k0 k1 k2 k3 HV4 HRO4 HP5 HY4 HE4
    obtain ⟨p5, hp5⟩ : ∃ p, p = w2.heap.size := ⟨_, rfl⟩; rw [← hp5] at hxb hpb hpa ⊢; clear hp5
    have HXB := Lib.hid hxb
    have HE5 := Lib.hid he5
    clear hxb he5
    have b0 := HXB.out.1
    have b1 := HXB.out.2.1
    obtain ⟨hc, hf, hz⟩ := HE5.out.facts
    have b2 := (hc _ 0 z0).trans m0
    have b3 := (hc _ 1 z0).trans m1
    have b4 := (hc _ 0 z1).trans m2
    have b5 := (hc _ 1 z1).trans m3
    have b6 := hz _ z0
    have b7 := hz _ z1
    have b8 : p5 < ws.heap.size := hpb
    clear hc hf hz m0 m1 m2 m3 z2 z3 z4 z5 hb
    go_wp2_with (first
      | (go_at_call 8; ((with_reducible refine (cjoin_any s t A4 B la.length n c4 d la lb _ (HXB.out.rws.ext (by repeat (first | exact Ext.refl _ | refine Ext.drew ?_ | refine Ext.drewN ?_ _ | refine Ext.alloc ?_ _))) (HB.out.ext (hB0.out.trans (hB1.out.trans (HE5.out.trans (by repeat (first | exact Ext.refl _ | refine Ext.drew ?_ | refine Ext.drewN ?_ _ | refine Ext.alloc ?_ _))))))).mono ?_); intro e w5 hr; obtain ⟨A5, n5, c5, rfl, hq5, hr5⟩ := HJ.out _ _ _ hr; have HE6 := Lib.hid (show Ext ws w5 from Ext.trans (by repeat (first | exact Ext.refl _ | refine Ext.drew ?_ | refine Ext.drewN ?_ _ | refine Ext.alloc ?_ _)) hq5); have HR5 := Lib.hid (show Rws w5 (fun b => ws.heap.size ≤ b) A5 n5 jl from hr5); clear hr hq5 hr5; obtain ⟨hc, hf, hz⟩ := HE6.out.facts; have y1 := hz _ b6; have y2 := hz _ b7; have y3 := hz _ b8; have t1 : ¬ (w.heap.size = w5.heap.size) := (by omega); have t2 : ¬ (w.heap.size + 1 = w5.heap.size) := (by omega); have t3 : ¬ (p5 = w5.heap.size) := (by omega); have t4 : ¬ (w5.heap.size = w.heap.size) := (by omega); have t5 : ¬ (w5.heap.size = w.heap.size + 1) := (by omega)))
      | (go_at_call 9; ((with_reducible refine (rjoin_any s t A B m n c d la lb _ (HA.out.ext (hB0.out.trans (hB1.out.trans (HE5.out.trans (HE6.out.trans (by repeat (first | exact Ext.refl _ | refine Ext.drew ?_ | refine Ext.drewN ?_ _ | refine Ext.alloc ?_ _))))))) (HB.out.ext (hB0.out.trans (hB1.out.trans (HE5.out.trans (HE6.out.trans (by repeat (first | exact Ext.refl _ | refine Ext.drew ?_ | refine Ext.drewN ?_ _ | refine Ext.alloc ?_ _)))))))).mono ?_); intro e w6 hr; obtain ⟨A6, n6, c6, rfl, hq6, hr6⟩ := HJ.out _ _ _ hr; have HE7 := Lib.hid (show Ext (w5.alloc (.cells #[.int .i64 js, .slice A5 n5 c5] 24)) w6 from Ext.trans (by repeat (first | exact Ext.refl _ | refine Ext.drew ?_ | refine Ext.drewN ?_ _ | refine Ext.alloc ?_ _)) hq6); have HE8 := Lib.hid (show Ext w5 w6 from ((Ext.refl w5).alloc _).trans HE7.out); have HR6 := Lib.hid (show Rws w6 (fun b => ws.heap.size ≤ b) A6 n6 jl from hr6.mono (fun b _ hb9 => Nat.le_trans (Below.size (HE6.out.trans (by repeat (first | exact Ext.refl _ | refine Ext.drew ?_ | refine Ext.drewN ?_ _ | refine Ext.alloc ?_ _)))) hb9)); clear hr hq6 hr6; have k0 : w6.cell? ⟨w5.heap.size, 0, none⟩ = some (.int .i64 js) := (by rw [(Ext.facts HE7.out).1 _ _ (by simp)]; simp [go_sem]); have k1 : w6.cell? ⟨w5.heap.size, 1, none⟩ = some (.slice A5 n5 c5) := (by rw [(Ext.facts HE7.out).1 _ _ (by simp)]; simp [go_sem]))))
    clear hc hf hz y1 y2 y3 t1 t2 t3 t4 t5
    have HEW := Lib.hid (show Ext ws (w6.alloc (.cells #[.int .i64 js, .slice A6 n6 c6] 24)) from HE6.out.trans (HE8.out.trans ((Ext.refl _).alloc _)))
    have f2 : (w6.alloc (.cells #[.int .i64 js, .slice A6 n6 c6] 24)).cell? ⟨w5.heap.size, 0, none⟩ = some (.int .i64 js) := (Below.cell (p := ⟨w5.heap.size, 0, none⟩) ((Ext.refl w6).alloc _) (World.block_lt_of_cell? w6 _ k0)).trans k0
    have f3 : (w6.alloc (.cells #[.int .i64 js, .slice A6 n6 c6] 24)).cell? ⟨w5.heap.size, 1, none⟩ = some (.slice A5 n5 c5) := (Below.cell (p := ⟨w5.heap.size, 1, none⟩) ((Ext.refl w6).alloc _) (World.block_lt_of_cell? w6 _ k1)).trans k1
    have f4 : (w6.alloc (.cells #[.int .i64 js, .slice A6 n6 c6] 24)).cell? ⟨w6.heap.size, 0, none⟩ = some (.int .i64 js) := by simp [go_sem]
    have f5 : (w6.alloc (.cells #[.int .i64 js, .slice A6 n6 c6] 24)).cell? ⟨w6.heap.size, 1, none⟩ = some (.slice A6 n6 c6) := by simp [go_sem]
    have HR5L := Lib.hid (HR5.out.ext (HE8.out.trans ((Ext.refl w6).alloc (.cells #[.int .i64 js, .slice A6 n6 c6] 24))))
    have HR6L := Lib.hid (HR6.out.ext ((Ext.refl w6).alloc (.cells #[.int .i64 js, .slice A6 n6 c6] 24)))
    have hp6 : ws.heap.size ≤ w5.heap.size := Below.size HE6.out
    have hp8 : ws.heap.size ≤ w6.heap.size := Below.size (HE6.out.trans HE8.out)
    have HEL := Lib.hid (show Ext w (w6.alloc (.cells #[.int .i64 js, .slice A6 n6 c6] 24)) from hB0.out.trans (hB1.out.trans (HE5.out.trans HEW.out)))
    obtain ⟨wl, hwl⟩ : ∃ wl, w6.alloc (.cells #[.int .i64 js, .slice A6 n6 c6] 24) = wl := ⟨_, rfl⟩
    rw [hwl] at HEW f2 f3 f4 f5 HR5L HR6L HEL ⊢
    clear hwl k0 k1 HR5 HR6 HE7 HE8 HE6
    generalize w5.heap.size = p6 at *
    generalize w6.heap.size = p8 at *
    have hl9 : la.length ≤ 1000 := by rw [HLA.out]; exact hm9
    have e2 := World.block_lt_of_cell? wl _ f2
    have e4 := World.block_lt_of_cell? wl _ f4
    have e5 : p5 < wl.heap.size := Nat.lt_of_lt_of_le b8 (Below.size HEW.out)
    have hN5 : ¬ Ux w.heap.size ws.heap.size p5 A4 p5 := fun h => h.2.2.1 rfl
    have hN6 : ¬ Ux w.heap.size ws.heap.size p5 A4 p6 := fun h => by have := h.2.1; omega
    have hN8 : ¬ Ux w.heap.size ws.heap.size p5 A4 p8 := fun h => by have := h.2.1; omega
    have HCX := Lib.hid (fun (wr : World) (h : Zr (Ux w.heap.size ws.heap.size p5 A4) wl wr) => (show wr.cell? ⟨p5, 1, none⟩ = some (.slice A4 la.length c4) ∧ wr.cell? ⟨p6, 0, none⟩ = some (.int .i64 js) ∧ wr.cell? ⟨p6, 1, none⟩ = some (.slice A5 n5 c5) ∧ wr.cell? ⟨p8, 0, none⟩ = some (.int .i64 js) ∧ wr.cell? ⟨p8, 1, none⟩ = some (.slice A6 n6 c6) from
      ⟨(h.2.1 _ _ e5 hN5).trans ((Below.cell (p := ⟨p5, 1, none⟩) HEW.out b8).trans b1), (h.2.1 _ _ e2 hN6).trans f2, (h.2.1 _ _ e2 hN6).trans f3, (h.2.1 _ _ e4 hN8).trans f4, (h.2.1 _ _ e4 hN8).trans f5⟩))
    clear b0 b1 b2 b3 b4 b5 b6 b7 f2 f3 f4 f5 hN6 hN8
    go_loopw [10] (fun i wr => ∃ (k : Nat), i = .int .i64 k ∧ k ≤ la.length ∧ Hid (Ext w wr) ∧ Hid (Zr (Ux w.heap.size ws.heap.size p5 A4) wl wr)) (fun i _ => la.length - (intOf i).toNat)
    case atStart => exact ⟨0, rfl, Nat.zero_le _, HEL, Lib.hid (Zr.refl _ _)⟩
    case round =>
      obtain ⟨k, rfl, hk, HE, HZ⟩ := hrel
      obtain ⟨l1, l2, l3, l4, l5⟩ := HCX.out _ HZ.out
      by_cases hlt : k < la.length
      · obtain ⟨g, off, A', n', c', rfl, hg, hgp, hrow, hm', hcells⟩ := HXB.out.row hlt
        have HCS := Lib.hid hcells
        have hng : ¬ Ux w.heap.size ws.heap.size p5 (some ⟨g, off, none⟩) g := fun h => h.2.2.2 _ _ rfl rfl
        have HRW := Lib.hid (fun (wr : World) (h : Zr (Ux w.heap.size ws.heap.size p5 (some ⟨g, off, none⟩)) wl wr) => (show wr.cell? ⟨g, off + k * 2 + 1, none⟩ = some (.slice A' n' c') from (h.2.1 _ _ (Nat.lt_of_lt_of_le hg (Below.size HEW.out)) hng).trans ((Below.cell (p := ⟨g, off + k * 2 + 1, none⟩) HEW.out hg).trans hrow)))
        clear hcells hrow hng
        have q0 : (0 : Int) ≤ (k : Int) := by omega
        have q1 : (k : Int) < (la.length : Int) := by omega
        unfold maxLen at hm'
        go_wp2
        go_loopw [11] (fun j wi => ∃ (q : Nat), j = .int .i64 q ∧ q ≤ n' ∧ Hid (Ext w wi) ∧ Hid (Zr (Ux w.heap.size ws.heap.size p5 (some ⟨g, off, none⟩)) wl wi)) (fun j _ => n' - (intOf j).toNat)
        case atStart => exact ⟨0, rfl, Nat.zero_le _, HE, HZ⟩
        case round =>
          obtain ⟨q, rfl, hq, HE2, HZ2⟩ := hrel
          obtain ⟨x1, x2, x3, x5, x7⟩ := HCX.out _ HZ2.out
          have x8 := HRW.out _ HZ2.out
          by_cases hlq : q < n'
          · obtain ⟨b, o, u, rfl, hcu, hbs, hlo, hbp, hbg, hfr⟩ := HCS.out q hlq
            have hU : Ux w.heap.size ws.heap.size p5 (some ⟨g, off, none⟩) b := ⟨hlo, hbs, hbp, fun g' off' e => by cases e; exact hbg⟩
            obtain ⟨u9, hu9⟩ := HZ2.out.2.2.2 _ _ ((Below.cell (p := ⟨b, o + q * 4, none⟩) HEW.out hbs).trans hcu)
            have hf9 := (HZ2.out.2.2.1 ⟨b, o + q * 4, none⟩).trans ((Ext.frozenAt HEW.out ⟨b, o + q * 4, none⟩ hbs).trans (hfr _))
            have r0 : (0 : Int) ≤ (q : Int) := by omega
            have r1 : (q : Int) < (n' : Int) := by omega
            clear hcu hfr
            go_wp2
            go_roundw
            case rel => exact ⟨q + 1, by go_num, by omega, Lib.hid (Below.setCell HE2.out hlo _), Lib.hid (HZ2.out.set hU _)⟩
            case measure => simp [intOf]; omega
          · obtain rfl : q = n' := by omega
            go_wp2
            go_roundw
            case rel => exact ⟨k + 1, by go_num, by omega, HE2, HZ2⟩
            case measure => simp [intOf]; omega
      · obtain rfl : k = la.length := by omega
        go_wp2_with (first | (go_at_call 10; ((with_reducible refine (rcsame_any js js A5 A6 n5 n6 c5 c6 jl jl _ ((HZ.out.rws HR5L.out).ext (by repeat (first | exact Ext.refl _ | refine Ext.drew ?_ | refine Ext.drewN ?_ _ | refine Ext.alloc ?_ _))) ((HZ.out.rws HR6L.out).ext (by repeat (first | exact Ext.refl _ | refine Ext.drew ?_ | refine Ext.drewN ?_ _ | refine Ext.alloc ?_ _)))).mono ?_); rintro e w9 ⟨rfl, hq9⟩; rw [sameC_yes]; have HE9 := Lib.hid (show Ext w w9 from HE.out.trans (Ext.trans (by repeat (first | exact Ext.refl _ | refine Ext.drew ?_ | refine Ext.drewN ?_ _ | refine Ext.alloc ?_ _)) hq9)); clear hq9)))
        go_ret
        exact ⟨by simp, HE9.out⟩

set_option maxRecDepth 100000 in
theorem chartJoins_lifted (os : Os) (started : os.Started) (H : Type) (enc : TypeId × Value → H) :
    ReturnsInHanded {} Try.checked os 3 .any (Rows.chartJoinsSpec.pre6 enc Try.prog Try.f3 Rows.chartJoinsRow.domain false) (Rows.chartJoinsSpec.post enc Try.prog Try.f3 false true false false) := by
  refine returnsInHanded_of_change (C := Try.checked) own started (by kernel_rfl) Try.func3
    (ChangeSpec.witness6 (enc := enc) (C := Try.checked) false ⟨#[], #[.agg #[.int .i64 0, .slice none 0 0], .agg #[.int .i64 0, .slice none 0 0]], []⟩ 8 (by kernel_rfl) (by kernel_rfl) (by kernel_rfl) (by kernel_rfl)) ?_
  intro W base args ds gs before hval0 hW hcnd _
  have hval : ∀ (j : Nat) t v, Try.f3.params[j]? = some t → args[j]? = some v → Value.okWide Try.prog W .any base t v := hval0
  have hW' := hW
  obtain ⟨p, q, hA0, hV, rfl, hfz, hnd⟩ := hW
  have hA : DataW.TrodAll enc Try.prog W 0 (fun _ => true) true Try.f3.params.toList args.toList ds p := hA0
  rw [Try.params3] at hA hval
  obtain ⟨v0, vs0, d0, ds0, p0, q0, hargs, rfl, rfl, h0, r0⟩ := trodAll_cons hA
  obtain ⟨v1, vs1, d1, ds1, p1, q1, rfl, rfl, rfl, h1, r1⟩ := trodAll_cons r0
  obtain ⟨rfl, rfl, rfl⟩ := trodAll_nil r1
  obtain rfl : args = #[v0, v1] := by cases args; simp_all
  obtain ⟨rfl, rfl⟩ := trodVars_none hV
  obtain ⟨sa, Aa, na, ca, a, rfl, hia⟩ := open_chart_arg (hval 0 24 v0 rfl rfl) h0
  obtain ⟨bs, Ab, nb, cb, b, rfl, hib⟩ := open_chart_arg (hval 1 24 v1 rfl rfl) h1
  refine (chartJoins_walk sa na ca Aa a W hia bs nb cb Ab b hib).mono fun e W' ⟨he, hg⟩ => ?_
  subst he
  exact ⟨_, rfl, law_post laid_out rfl Try.underlying4 (by kernel_rfl) rfl hW' rfl hg⟩

theorem chartJoins_holds : Rows.ChartJoinsSaid :=
  OpenClaim.holds_of_wide 3 Try.f3 rfl rfl rfl rfl rfl rfl rfl ⟨rfl, rfl, rfl, rfl, rfl⟩ rfl rfl rfl rfl rfl (by kernel_rfl) Try.func3 (by kernel_rfl)
    (of_decide_eq_true (by kernel_rfl)) (by unfold Func.isWrapper; first | (rw [if_pos (by decide +kernel)]; kernel_rfl) | (rw [if_neg (by decide +kernel)]; exact ⟨rfl, rfl⟩))
    (fun os started H enc _ => chartJoins_lifted os started H enc)
end Go.Proofs.Ytjjhoonkooihjaa
