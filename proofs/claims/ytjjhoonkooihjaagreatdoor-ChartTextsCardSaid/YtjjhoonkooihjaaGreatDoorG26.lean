/- The reference's Parse of a chart. -/
import Derived.Test.YtjjhoonkooihjaaGreatDoorG25
namespace Go.Proofs.YtjjhoonkooihjaaGreatDoor
set_option maxRecDepth 100000
set_option maxRecDepth 100000
open Go.RowKit Go.ChangeShapes Go.WideShapes Go.Joins
theorem byte_ne {d c : UInt8} (h : d ≠ c) : ((d.toNat : Int) == (c.toNat : Int)) = false := by
  rw [beq_eq_false_iff_ne]
  exact fun h9 => h (UInt8.toNat_inj.1 (by omega))
theorem crparse_long (l : List UInt8) (hl : 20000 < l.length) (h : (l.length : Int) ≤ 1000000000) (w : World) : Calls Tryz.prog 13 #[.string ⟨l.toArray⟩] w (CParseR l w) := by
  have h1 := Lib.hid (show chartP l = none by rw [chartP, if_pos hl])
  have h2 : (20000 : Int) < (l.length : Int) := by omega
  clear hl
  go_enter Tryz.func13, Tryz.ntmps13
  go_wp2_with fail
  exact bodyPost_ret (v := .tuple #[.agg #[.int .i64 0, .slice none 0 0], .int .i64 12]) (by simp [results, Tryz.f13, go_sem]) rfl (CParseR.no h1.out rfl (by repeat (first | exact Ext.refl _ | assumption | refine Ext.alloc ?_ _ | refine Ext.drew ?_ | refine Ext.drewN ?_ _ | refine Ext.trans ?_ (by assumption))))
set_option maxHeartbeats 16000000 in
theorem crparse_main (l : List UInt8) (hl : l.length ≤ 20000) (w : World) : Calls Tryz.prog 13 #[.string ⟨l.toArray⟩] w (CParseR l w) := by
  have hlen : ¬ (20000 : Int) < (l.length : Int) := by omega
  have HS := Lib.hid (fun (w' : World) => (show Calls Tryz.prog 40 #[.string ⟨l.toArray⟩, .int .u8 10] w' fun e w'' => ∃ v, e = .returned v ∧ OwnV shStr w'' w'.heap.size 9 v (spl 10 l).length (spl 10 l) ∧ Ext w' w'' from cut_any 10 l (by omega) w'))
  have hwl := spl_words_len 10 l
  have hHEAD := rchartP_head (s := l)
  have hNUM := rchartP_num (s := l)
  have hGO := fun (n : Nat) (X : Option (List Ro)) h hn hx => rchartP_go (s := l) (n := n) (X := X) hl h hn hx
  generalize spl 10 l = ws at *
  obtain ⟨N, hN⟩ : ∃ N, ws.length = N := ⟨_, rfl⟩
  rw [hN] at HS hHEAD hGO
  obtain ⟨hNb, hwl⟩ := hwl
  rw [hN] at hNb
  have HWL := Lib.hid (fun (k : Nat) (hk : k < N) => (show (ws.getD k []).length ≤ 20000 from by
    have h9 := hwl (ws.getD k []) (by rw [List.getD_eq_getElem?_getD, List.getElem?_eq_getElem (by omega)]; exact List.getElem_mem _)
    omega))
  have HNW := Lib.hid hN
  clear hwl hN
  by_cases hN2 : N < 2
  · have HCP := Lib.hid (hHEAD (.inl hN2))
    have q1 : (N : Int) < 2 := by omega
    clear hHEAD hNUM hGO
    go_enter Tryz.func13, Tryz.ntmps13
    go_upto_region 4 with (first | (go_at_call 40; go_loud ((with_reducible refine (HS.out _).mono ?_); rintro e w1 ⟨v1, rfl, hv1, hq1⟩; obtain ⟨A1, c1, rfl, -, -⟩ := own_vecB hv1; have HQ1 := Lib.hid hq1; have HV1 := Lib.hid hv1; clear hq1 hv1)))
    obtain ⟨hc1, hf1, hz1⟩ := HQ1.out.facts
    obtain ⟨k0, k1⟩ : w1.cell? ⟨w.heap.size, 0, none⟩ = some (.int .i64 0) ∧ w1.cell? ⟨w.heap.size, 1, none⟩ = some (.slice none 0 0) := ⟨by rw [hc1 _ _ (by simp)]; simp [go_sem], by rw [hc1 _ _ (by simp)]; simp [go_sem]⟩
    have k2 : w1.frozen? ⟨w.heap.size, 0, none⟩ = false := by rw [hf1 _ _ (by simp)]; simp [go_sem]
    have k3 : w1.frozen? ⟨w.heap.size, 1, none⟩ = false := by rw [hf1 _ _ (by simp)]; simp [go_sem]
    have z0 : w.heap.size < w1.heap.size := hz1 _ (by simp)
    go_wp2_with fail
    obtain ⟨y0, y1⟩ := res_cells (v0 := .int .i64 0) (v1 := .slice none 0 0) k0 k1
    exact bodyPost_ret (v := .tuple #[.agg #[.int .i64 0, .slice none 0 0], .int .i64 12]) (by simp [results, Tryz.f13, go_sem, y0, y1]) rfl (CParseR.no HCP.out rfl (Below.setCell (Below.setCell ((((Ext.refl w).alloc _).trans HQ1.out)) (by simp) _) (by simp) _))
  by_cases hN3 : 102 < N
  · have HCP := Lib.hid (hHEAD (.inr (.inl hN3)))
    have q1 : ¬ ((N : Int) < 2) := by omega
    have q2 : (100 : Int) < (N : Int) - 2 := by omega
    have q3 := IntWalk.i64_in ((N : Int) - 2) (by omega)
    clear hHEAD hNUM hGO
    go_enter Tryz.func13, Tryz.ntmps13
    go_upto_region 4 with (first | (go_at_call 40; go_loud ((with_reducible refine (HS.out _).mono ?_); rintro e w1 ⟨v1, rfl, hv1, hq1⟩; obtain ⟨A1, c1, rfl, -, -⟩ := own_vecB hv1; have HQ1 := Lib.hid hq1; have HV1 := Lib.hid hv1; clear hq1 hv1)))
    obtain ⟨hc1, hf1, hz1⟩ := HQ1.out.facts
    obtain ⟨k0, k1⟩ : w1.cell? ⟨w.heap.size, 0, none⟩ = some (.int .i64 0) ∧ w1.cell? ⟨w.heap.size, 1, none⟩ = some (.slice none 0 0) := ⟨by rw [hc1 _ _ (by simp)]; simp [go_sem], by rw [hc1 _ _ (by simp)]; simp [go_sem]⟩
    have k2 : w1.frozen? ⟨w.heap.size, 0, none⟩ = false := by rw [hf1 _ _ (by simp)]; simp [go_sem]
    have k3 : w1.frozen? ⟨w.heap.size, 1, none⟩ = false := by rw [hf1 _ _ (by simp)]; simp [go_sem]
    have z0 : w.heap.size < w1.heap.size := hz1 _ (by simp)
    go_wp2_with fail
    obtain ⟨y0, y1⟩ := res_cells (v0 := .int .i64 0) (v1 := .slice none 0 0) k0 k1
    exact bodyPost_ret (v := .tuple #[.agg #[.int .i64 0, .slice none 0 0], .int .i64 12]) (by simp [results, Tryz.f13, go_sem, y0, y1]) rfl (CParseR.no HCP.out rfl (Below.setCell (Below.setCell ((((Ext.refl w).alloc _).trans HQ1.out)) (by simp) _) (by simp) _))
  have q1 : ¬ ((N : Int) < 2) := by omega
  have q2 : ¬ ((100 : Int) < (N : Int) - 2) := by omega
  have q3 := IntWalk.i64_in ((N : Int) - 2) (by omega)
  have q4 : (0 : Int) < (N : Int) := by omega
  have hx0l := HWL.out 0 (by omega)
  obtain ⟨x0, hx0⟩ : ∃ x, ws.getD 0 [] = x := ⟨_, rfl⟩
  have HX0 := Lib.hid hx0
  rw [hx0] at hHEAD hNUM hGO hx0l
  by_cases h7 : x0.length < 7
  · have HCP := Lib.hid (hHEAD (.inr (.inr (.inl h7))))
    have q5 : (x0.length : Int) < 7 := by omega
    clear hHEAD hNUM hGO hx0
    go_enter Tryz.func13, Tryz.ntmps13
    go_upto_region 4 with (first | (go_at_call 40; go_loud ((with_reducible refine (HS.out _).mono ?_); rintro e w1 ⟨v1, rfl, hv1, hq1⟩; obtain ⟨A1, c1, rfl, -, -⟩ := own_vecB hv1; have HQ1 := Lib.hid hq1; have HV1 := Lib.hid hv1; clear hq1 hv1)))
    obtain ⟨hc1, hf1, hz1⟩ := HQ1.out.facts
    obtain ⟨k0, k1⟩ : w1.cell? ⟨w.heap.size, 0, none⟩ = some (.int .i64 0) ∧ w1.cell? ⟨w.heap.size, 1, none⟩ = some (.slice none 0 0) := ⟨by rw [hc1 _ _ (by simp)]; simp [go_sem], by rw [hc1 _ _ (by simp)]; simp [go_sem]⟩
    have k2 : w1.frozen? ⟨w.heap.size, 0, none⟩ = false := by rw [hf1 _ _ (by simp)]; simp [go_sem]
    have k3 : w1.frozen? ⟨w.heap.size, 1, none⟩ = false := by rw [hf1 _ _ (by simp)]; simp [go_sem]
    have z0 : w.heap.size < w1.heap.size := hz1 _ (by simp)
    obtain ⟨b3, off3, rfl, hb3, hlt3, hcs⟩ := own_strs HV1.out (by omega)
    have hgb : w.heap.size < b3 ∧ b3 < w1.heap.size := ⟨by have h9 := hb3; simp only [World.size_alloc] at h9; omega, hlt3⟩
    have hcell := hcs 0 (by omega)
    rw [HX0.out, Nat.add_zero] at hcell
    have hz3 := hlt3
    clear hc1 hf1 hz1 hb3 hlt3
    go_wp2_with fail
    obtain ⟨y0, y1⟩ := res_cells (v0 := .int .i64 0) (v1 := .slice none 0 0) k0 k1
    exact bodyPost_ret (v := .tuple #[.agg #[.int .i64 0, .slice none 0 0], .int .i64 12]) (by simp [results, Tryz.f13, go_sem, y0, y1]) rfl (CParseR.no HCP.out rfl (Below.setCell (Below.setCell ((((Ext.refl w).alloc _).trans HQ1.out)) (by simp) _) (by simp) _))
  have q5 : ¬ ((x0.length : Int) < 7) := by omega
  have q6 : (6 : Int) ≤ (x0.length : Int) := by omega
  have e0 := str_ext0 x0 6
  have e1 := str_extD x0 6 x0.length (Nat.le_refl _)
  by_cases htk : x0.take 6 = wStart
  case neg =>
    have HCP := Lib.hid (hHEAD (.inr (.inr (.inr htk))))
    have q7 : (x0.take 6 == [115, 116, 97, 114, 116, 32]) = false := by simpa [wStart] using htk
    clear hHEAD hNUM hGO htk e1 hx0
    generalize x0.take 6 = y at *
    go_enter Tryz.func13, Tryz.ntmps13
    go_upto_region 4 with (first | (go_at_call 40; go_loud ((with_reducible refine (HS.out _).mono ?_); rintro e w1 ⟨v1, rfl, hv1, hq1⟩; obtain ⟨A1, c1, rfl, -, -⟩ := own_vecB hv1; have HQ1 := Lib.hid hq1; have HV1 := Lib.hid hv1; clear hq1 hv1)))
    obtain ⟨hc1, hf1, hz1⟩ := HQ1.out.facts
    obtain ⟨k0, k1⟩ : w1.cell? ⟨w.heap.size, 0, none⟩ = some (.int .i64 0) ∧ w1.cell? ⟨w.heap.size, 1, none⟩ = some (.slice none 0 0) := ⟨by rw [hc1 _ _ (by simp)]; simp [go_sem], by rw [hc1 _ _ (by simp)]; simp [go_sem]⟩
    have k2 : w1.frozen? ⟨w.heap.size, 0, none⟩ = false := by rw [hf1 _ _ (by simp)]; simp [go_sem]
    have k3 : w1.frozen? ⟨w.heap.size, 1, none⟩ = false := by rw [hf1 _ _ (by simp)]; simp [go_sem]
    have z0 : w.heap.size < w1.heap.size := hz1 _ (by simp)
    obtain ⟨b3, off3, rfl, hb3, hlt3, hcs⟩ := own_strs HV1.out (by omega)
    have hgb : w.heap.size < b3 ∧ b3 < w1.heap.size := ⟨by have h9 := hb3; simp only [World.size_alloc] at h9; omega, hlt3⟩
    have hcell := hcs 0 (by omega)
    rw [HX0.out, Nat.add_zero] at hcell
    have hz3 := hlt3
    clear hc1 hf1 hz1 hb3 hlt3
    go_wp2_with fail
    obtain ⟨y0, y1⟩ := res_cells (v0 := .int .i64 0) (v1 := .slice none 0 0) k0 k1
    exact bodyPost_ret (v := .tuple #[.agg #[.int .i64 0, .slice none 0 0], .int .i64 12]) (by simp [results, Tryz.f13, go_sem, y0, y1]) rfl (CParseR.no HCP.out rfl (Below.setCell (Below.setCell ((((Ext.refl w).alloc _).trans HQ1.out)) (by simp) _) (by simp) _))
  have q7 : (x0.take 6 == [115, 116, 97, 114, 116, 32]) = true := by rw [htk]; rfl
  have hhead : ¬ (N < 2 ∨ 102 < N ∨ x0.length < 7 ∨ ¬ x0.take 6 = wStart) := by
    rintro (h | h | h | h)
    · omega
    · omega
    · omega
    · exact h htk
  have hyl : (x0.drop 6).length ≤ 20000 := by rw [List.length_drop]; omega
  have HNU := Lib.hid (fun (w' : World) => refnumber_any (x0.drop 6) (by omega) w')
  cases hnum : numS (x0.drop 6) with
  | none =>
    have HCP := Lib.hid (hNUM hnum)
    unfold NumR at HNU
    rw [hnum] at HNU
    clear hHEAD hNUM hGO htk hx0 hhead hnum
    generalize numN (x0.drop 6) = nn at *
    generalize x0.drop 6 = y6 at *
    generalize x0.take 6 = y at *
    go_enter Tryz.func13, Tryz.ntmps13
    go_upto_region 4 with (first | (go_at_call 40; go_loud ((with_reducible refine (HS.out _).mono ?_); rintro e w1 ⟨v1, rfl, hv1, hq1⟩; obtain ⟨A1, c1, rfl, -, -⟩ := own_vecB hv1; have HQ1 := Lib.hid hq1; have HV1 := Lib.hid hv1; clear hq1 hv1)))
    obtain ⟨hc1, hf1, hz1⟩ := HQ1.out.facts
    obtain ⟨k0, k1⟩ : w1.cell? ⟨w.heap.size, 0, none⟩ = some (.int .i64 0) ∧ w1.cell? ⟨w.heap.size, 1, none⟩ = some (.slice none 0 0) := ⟨by rw [hc1 _ _ (by simp)]; simp [go_sem], by rw [hc1 _ _ (by simp)]; simp [go_sem]⟩
    have k2 : w1.frozen? ⟨w.heap.size, 0, none⟩ = false := by rw [hf1 _ _ (by simp)]; simp [go_sem]
    have k3 : w1.frozen? ⟨w.heap.size, 1, none⟩ = false := by rw [hf1 _ _ (by simp)]; simp [go_sem]
    have z0 : w.heap.size < w1.heap.size := hz1 _ (by simp)
    obtain ⟨b3, off3, rfl, hb3, hlt3, hcs⟩ := own_strs HV1.out (by omega)
    have hgb : w.heap.size < b3 ∧ b3 < w1.heap.size := ⟨by have h9 := hb3; simp only [World.size_alloc] at h9; omega, hlt3⟩
    have hcell := hcs 0 (by omega)
    rw [HX0.out, Nat.add_zero] at hcell
    have hz3 := hlt3
    clear hc1 hf1 hz1 hb3 hlt3
    go_upto_region 7 with (first | (go_at_call 41; go_loud ((with_reducible refine (HNU.out _).mono ?_); rintro e w3 ⟨rfl, hq3⟩; have HQ3 := Lib.hid hq3; clear hq3)))
    obtain ⟨hc3, hf3, hz4⟩ := HQ3.out.facts
    replace k0 := (hc3 _ 0 z0).trans k0
    replace k1 := (hc3 _ 1 z0).trans k1
    replace k2 := (hf3 _ 0 z0).trans k2
    replace k3 := (hf3 _ 1 z0).trans k3
    have z9 := hz4 _ z0
    clear hc3 hf3 hz4
    go_wp2_with fail
    obtain ⟨y0, y1⟩ := res_cells (v0 := .int .i64 0) (v1 := .slice none 0 0) k0 k1
    exact bodyPost_ret (v := .tuple #[.agg #[.int .i64 0, .slice none 0 0], .int .i64 12]) (by simp [results, Tryz.f13, go_sem, y0, y1]) rfl (CParseR.no HCP.out rfl (Below.setCell (Below.setCell (((((Ext.refl w).alloc _).trans HQ1.out).trans HQ3.out)) (by simp) _) (by simp) _))
  | some nn =>
    have hnn : numN (x0.drop 6) = (nn : Int) := by rw [numN, hnum]; rfl
    unfold NumR at HNU
    rw [hnum, hnn] at HNU
    have HGO := Lib.hid (fun X hx => hGO nn X hhead hnum hx)
    clear hHEAD hNUM hGO htk hx0 hhead hnum hnn
    generalize x0.drop 6 = y6 at *
    generalize x0.take 6 = y at *
    go_enter Tryz.func13, Tryz.ntmps13
    go_upto_region 4 with (first | (go_at_call 40; go_loud ((with_reducible refine (HS.out _).mono ?_); rintro e w1 ⟨v1, rfl, hv1, hq1⟩; obtain ⟨A1, c1, rfl, -, -⟩ := own_vecB hv1; have HQ1 := Lib.hid hq1; have HV1 := Lib.hid hv1; clear hq1 hv1)))
    obtain ⟨hc1, hf1, hz1⟩ := HQ1.out.facts
    obtain ⟨k0, k1⟩ : w1.cell? ⟨w.heap.size, 0, none⟩ = some (.int .i64 0) ∧ w1.cell? ⟨w.heap.size, 1, none⟩ = some (.slice none 0 0) := ⟨by rw [hc1 _ _ (by simp)]; simp [go_sem], by rw [hc1 _ _ (by simp)]; simp [go_sem]⟩
    have k2 : w1.frozen? ⟨w.heap.size, 0, none⟩ = false := by rw [hf1 _ _ (by simp)]; simp [go_sem]
    have k3 : w1.frozen? ⟨w.heap.size, 1, none⟩ = false := by rw [hf1 _ _ (by simp)]; simp [go_sem]
    have z0 : w.heap.size < w1.heap.size := hz1 _ (by simp)
    obtain ⟨b3, off3, rfl, hb3, hlt3, hcs⟩ := own_strs HV1.out (by omega)
    have hgb : w.heap.size < b3 ∧ b3 < w1.heap.size := ⟨by have h9 := hb3; simp only [World.size_alloc] at h9; omega, hlt3⟩
    have hcell := hcs 0 (by omega)
    rw [HX0.out, Nat.add_zero] at hcell
    have hz3 := hlt3
    clear hc1 hf1 hz1 hb3 hlt3
    go_upto_region 11 with (first | (go_at_call 41; go_loud ((with_reducible refine (HNU.out _).mono ?_); rintro e w3 ⟨rfl, hq3⟩; have HQ3 := Lib.hid hq3; clear hq3)))
    have HPJ0 := Lib.hid (PJ.start (n := (nn : Int)) (go := off3) (N := N) (ws := ws) (tc := 24) HQ1.out hgb hcs HQ3.out)
    clear HV1 HQ1 HQ3 HS HNU k0 k1 z0 hgb hcs hcell hz3 q1 q2 q3 q4 q5 q6 q7 e0 e1 hx0l hyl
    go_loopw [8] (fun i wr => ∃ (W : World) (acc : List Ro) (V : Value) (k : Nat), i = .int .i64 k ∧ 1 ≤ k ∧ k + 1 ≤ N ∧ acc.length + 1 = k ∧ Hid (PJ (nn : Int) w.heap.size b3 off3 N w3.heap.size ws w W wr acc V) ∧ Hid (rrowsP [] ((ws.drop 1).take (N - 1 - 1)) = rrowsP acc ((ws.drop k).take (N - 1 - k)))) (fun i _ => N - (intOf i).toNat)
    case atStart => exact ⟨_, [], _, 1, rfl, by omega, by omega, rfl, HPJ0, Lib.hid rfl⟩
    case round =>
      clear HPJ0
      obtain ⟨W, acc, V, k, rfl, hk1, hkN, hak, HP, HR⟩ := hrel
      obtain ⟨wo, rfl⟩ : ∃ wo : World, wo = wr := ⟨_, rfl⟩
      obtain ⟨k0, k1, k2, k3, f0, f1, f2, z0, z1, z2⟩ := HP.out.facts
      obtain ⟨A9, c9, rfl, hrw⟩ := own_rws HP.out.own (by omega)
      have p0 := IntWalk.i64_in ((k : Int) + 1) (by omega)
      by_cases hlt : k + 1 < N
      · have p1 : (k : Int) + 1 < (N : Int) := by omega
        have p2 : (k : Int) < (N : Int) := by omega
        have p3 : (0 : Int) ≤ (k : Int) := by omega
        have hd := HR.out.trans (rrowsP_drop (k := k) hlt HNW.out)
        have hxl := HWL.out k (by omega)
        have HWD := Lib.hid (fun (w' : World) (hb : Ext wo w') => (HP.out.ext hb).word (k := k) (by omega))
        have hcell := HP.out.word (k := k) (by omega)
        obtain ⟨x, hx⟩ : ∃ x, ws.getD k [] = x := ⟨_, rfl⟩
        rw [hx] at hd hxl HWD hcell
        obtain ⟨a1, a2, a3, a4⟩ := cutF_at 32 x
        have hS1 := fun h1 h2 => rrowP_side (x := x) h1 h2
        have hS2 := fun h1 h2 => rrowP_bare (x := x) h1 h2
        have hS3 := fun h2 h3 => rrowP_no (x := x) h2 h3
        have hS4 := fun y h1 h2 h3 => rrowP_yes (x := x) (l := y) h1 h2 h3
        obtain ⟨sd, hsd⟩ : ∃ y, (cutF 32 x).1 = y := ⟨_, rfl⟩
        obtain ⟨cl, hcl⟩ : ∃ y, (cutF 32 x).2.1 = y := ⟨_, rfl⟩
        obtain ⟨fl, hfl⟩ : ∃ y, (cutF 32 x).2.2 = y := ⟨_, rfl⟩
        rw [hsd] at a1 a2 a3 a4 hS1 hS2 hS4
        rw [hcl] at a3 hS3 hS4
        rw [hfl] at a3 a4 hS2 hS3 hS4
        obtain ⟨Pn, hPn⟩ : ∃ y, sd.length = y := ⟨_, rfl⟩
        rw [hPn] at a1 a2 a3 a4
        have HPx := Lib.hid (show Pn ≤ x.length from by
          cases fl
          · exact Nat.le_of_eq (a4 rfl)
          · exact Nat.le_of_lt (a3 rfl).1)
        have HD := Lib.hid hd
        have HA1 := Lib.hid a1
        have HA2 := Lib.hid a2
        have HA3 := Lib.hid a3
        have HA4 := Lib.hid a4
        have HS1 := Lib.hid hS1
        have HS2 := Lib.hid hS2
        have HS3 := Lib.hid hS3
        have HS4 := Lib.hid hS4
        clear hd a1 a2 a3 a4 hS1 hS2 hS3 hS4 hsd hcl hfl hPn hx hrw HR HWL
        go_wp2_with fail
        go_loopw [9] (fun a w2 => ∃ j : Nat, a = .int .i64 j ∧ j ≤ Pn ∧ Hid (Ext wo w2)) (fun a _ => Pn - (intOf a).toNat)
        case atStart => exact ⟨0, rfl, by omega, Lib.hid (by repeat (first | exact Ext.refl _ | assumption | refine Ext.alloc ?_ _ | refine Ext.drew ?_ | refine Ext.drewN ?_ _ | refine Ext.trans ?_ (by assumption)))⟩
        case round =>
          obtain ⟨j, rfl, hj, HE2⟩ := hrel
          have HP2 := Lib.hid (HP.out.ext HE2.out)
          have hcell2 := HWD.out _ HE2.out
          have hz2 := World.block_lt_of_cell? wr _ hcell2
          simp only at hz2
          have hpx := HPx.out
          have j0 : (0 : Int) ≤ (j : Int) := by omega
          have h5 := str_at x j
          clear k0 k1 k2 k3 f0 f1 f2 z0 z1 z2 hcell
          by_cases hjP : j < Pn
          · have j1 : (j : Int) < (x.length : Int) := by omega
            have hbn := HA2.out j hjP
            have hne : (((x.getD j 0).toNat : Int) == 32) = false := byte_ne (c := 32) hbn
            generalize x.getD j 0 = d at *
            clear hbn
            go_wp2_with fail
            go_roundw
            case rel => exact ⟨j + 1, by go_num, by omega, Lib.hid (HE2.out.trans (by repeat (first | exact Ext.refl _ | assumption | refine Ext.alloc ?_ _ | refine Ext.drew ?_ | refine Ext.drewN ?_ _ | refine Ext.trans ?_ (by assumption))))⟩
            case measure => simp [intOf]; omega
          · have hjp : j = Pn := by omega
            rw [hjp]
            have g0 : (0 : Int) ≤ (Pn : Int) := by omega
            have g1 : (Pn : Int) ≤ (x.length : Int) := by omega
            have e3 := str_ext0 x Pn
            rw [← HA1.out] at e3
            clear h5 j0 hj hjP hjp HA1 HA2
            obtain ⟨k0, k1, k2, k3, f0, f1, f2, z0, z1, z2⟩ := HP2.out.facts
            cases fl
            case false =>
              have hpl := HA4.out rfl
              have g2 : ¬ ((Pn : Int) < (x.length : Int)) := by omega
              clear HA3 HA4 hpl
              by_cases hb1 : sd = [102, 114, 111, 110, 116]
              case pos =>
                have s1 : (sd == [102, 114, 111, 110, 116]) = true := by rw [hb1]; rfl
                have s2 : (sd == [98, 97, 99, 107]) = false := by rw [hb1]; rfl
                have hbk : decide (sd = sideT true) = false := by rw [hb1]; rfl
                have hor : sd = [102, 114, 111, 110, 116] ∨ sd = [98, 97, 99, 107] := .inl hb1
                clear hb1
                have HDN := Lib.hid (by have h9 := HD.out; rw [HS2.out hor rfl, hbk] at h9; exact h9)
                clear hor hbk HD HS1 HS2 HS3 HS4
                go_wp2_with (first
                  | (at_builtin; go_loud (refine wpList_append_rws (w := W) (t := acc) (r := [⟨false, []⟩]) (ys := [⟨false, none, 0, 0⟩]) 22 46 (.agg #[.bool false, .slice none 0 0]) 32 (by rfl) (by rfl) Tryz.underlying22 info_row (by rfl) (by omega) (by rfl) (by rfl) (HP2.out.own.ext (by repeat (first | exact Ext.refl _ | refine Ext.drew ?_ | refine Ext.drewN ?_ _ | refine Ext.alloc ?_ _))) (HP2.out.e1.trans (by repeat (first | exact Ext.refl _ | refine Ext.drew ?_ | refine Ext.drewN ?_ _ | refine Ext.alloc ?_ _))) (Vec.lit2 (w := wr.alloc (.cells #[.bool false, .slice none 0 0] 46)) (by first | rfl | (simp; done)) (by rfl) (by rfl)) (ros_one (show RoAt _ (Kr _ _ _) ⟨false, none, 0, 0⟩ ⟨false, []⟩ from ⟨rfl, Vec.none_ _ _ _, by unfold maxLen; exact Nat.zero_le _, bytes_ok rfl, fun h9 => absurd h9 (by decide)⟩)) (by omega) ?_; intro v' w6 hown6 hext6; obtain ⟨A6, c6, rfl, -⟩ := own_rws hown6 (by omega); have HL6 := Lib.hid HP2.out.lt; have i0 : w6.cell? ⟨w3.heap.size, 1, none⟩ = some (.slice A9 acc.length c9) := ((hext6.out.facts.1 _ _ HL6.out.2.2.2).trans HP2.out.c1); have i1 : w6.frozen? ⟨w3.heap.size, 1, none⟩ = false := ((hext6.out.facts.2.1 _ _ HL6.out.2.2.2).trans (HP2.out.z2 1)); have i2 : w3.heap.size < w6.heap.size := (hext6.out.facts.2.2 _ HL6.out.2.2.2); have HP7 := Lib.hid (HP2.out.rows_ (acc2 := acc ++ [⟨false, []⟩]) hext6.out (by rw [List.length_append]; exact hown6)))))
                go_roundw
                case rel => rw [hak] at HP7; exact ⟨_, acc ++ [⟨false, []⟩], _, k + 1, by go_num, by omega, by omega, by rw [List.length_append]; simp only [List.length_singleton]; omega, HP7, HDN⟩
                case measure => simp [intOf] <;> omega
              by_cases hb2 : sd = [98, 97, 99, 107]
              case pos =>
                have s1 : (sd == [102, 114, 111, 110, 116]) = false := by rw [hb2]; rfl
                have s2 : (sd == [98, 97, 99, 107]) = true := by rw [hb2]; rfl
                have hbk : decide (sd = sideT true) = true := by rw [hb2]; rfl
                have hor : sd = [102, 114, 111, 110, 116] ∨ sd = [98, 97, 99, 107] := .inr hb2
                clear hb1 hb2
                have HDN := Lib.hid (by have h9 := HD.out; rw [HS2.out hor rfl, hbk] at h9; exact h9)
                clear hor hbk HD HS1 HS2 HS3 HS4
                go_wp2_with (first
                  | (at_builtin; go_loud (refine wpList_append_rws (w := W) (t := acc) (r := [⟨true, []⟩]) (ys := [⟨true, none, 0, 0⟩]) 22 46 (.agg #[.bool false, .slice none 0 0]) 32 (by rfl) (by rfl) Tryz.underlying22 info_row (by rfl) (by omega) (by rfl) (by rfl) (HP2.out.own.ext (by repeat (first | exact Ext.refl _ | refine Ext.drew ?_ | refine Ext.drewN ?_ _ | refine Ext.alloc ?_ _))) (HP2.out.e1.trans (by repeat (first | exact Ext.refl _ | refine Ext.drew ?_ | refine Ext.drewN ?_ _ | refine Ext.alloc ?_ _))) (Vec.lit2 (w := wr.alloc (.cells #[.bool true, .slice none 0 0] 46)) (by first | rfl | (simp; done)) (by rfl) (by rfl)) (ros_one (show RoAt _ (Kr _ _ _) ⟨true, none, 0, 0⟩ ⟨true, []⟩ from ⟨rfl, Vec.none_ _ _ _, by unfold maxLen; exact Nat.zero_le _, bytes_ok rfl, fun h9 => absurd h9 (by decide)⟩)) (by omega) ?_; intro v' w6 hown6 hext6; obtain ⟨A6, c6, rfl, -⟩ := own_rws hown6 (by omega); have HL6 := Lib.hid HP2.out.lt; have i0 : w6.cell? ⟨w3.heap.size, 1, none⟩ = some (.slice A9 acc.length c9) := ((hext6.out.facts.1 _ _ HL6.out.2.2.2).trans HP2.out.c1); have i1 : w6.frozen? ⟨w3.heap.size, 1, none⟩ = false := ((hext6.out.facts.2.1 _ _ HL6.out.2.2.2).trans (HP2.out.z2 1)); have i2 : w3.heap.size < w6.heap.size := (hext6.out.facts.2.2 _ HL6.out.2.2.2); have HP7 := Lib.hid (HP2.out.rows_ (acc2 := acc ++ [⟨true, []⟩]) hext6.out (by rw [List.length_append]; exact hown6)))))
                go_roundw
                case rel => rw [hak] at HP7; exact ⟨_, acc ++ [⟨true, []⟩], _, k + 1, by go_num, by omega, by omega, by rw [List.length_append]; simp only [List.length_singleton]; omega, HP7, HDN⟩
                case measure => simp [intOf] <;> omega
              have s1 : (sd == [102, 114, 111, 110, 116]) = false := by simpa using hb1
              have s2 : (sd == [98, 97, 99, 107]) = false := by simpa using hb2
              have HCP := Lib.hid (show chartP l = none from HGO.out none (by have h9 := HD.out; rw [HS1.out hb1 hb2] at h9; exact h9))
              clear hb1 hb2
              go_wp2_with fail
              obtain ⟨y0, y1⟩ := res_cells (v0 := .int .i64 0) (v1 := .slice none 0 0) k0 k1
              exact bodyPost_ret (v := .tuple #[.agg #[.int .i64 0, .slice none 0 0], .int .i64 12]) (by simp [results, Tryz.f13, go_sem, y0, y1]) rfl (CParseR.no HCP.out rfl (Below.setCell (Below.setCell (HP2.out.e0.trans HP2.out.e1) (by simp) _) (by simp) _))
            case true =>
              obtain ⟨g9, g8, g7⟩ := HA3.out rfl
              have g2 : (Pn : Int) < (x.length : Int) := by omega
              have h5 := str_at x Pn
              rw [g8] at h5
              have g3 := IntWalk.i64_in ((Pn : Int) + 1) (by omega)
              have g4 : (0 : Int) ≤ (Pn : Int) + 1 := by omega
              have g5 : (Pn : Int) + 1 ≤ (x.length : Int) := by omega
              have e4 := str_extD x (Pn + 1) x.length (Nat.le_refl _)
              rw [← g7] at e4
              have hcll : cl.length ≤ x.length := by rw [g7, List.length_drop]; omega
              have HPA := Lib.hid (fun (w' : World) => rparse_own cl (by omega) w')
              clear HA3 HA4 g7 g8 hcll
              by_cases hb1 : sd = [102, 114, 111, 110, 116]
              case pos =>
                have s1 : (sd == [102, 114, 111, 110, 116]) = true := by rw [hb1]; rfl
                have s2 : (sd == [98, 97, 99, 107]) = false := by rw [hb1]; rfl
                have hbk : decide (sd = sideT true) = false := by rw [hb1]; rfl
                have hor : sd = [102, 114, 111, 110, 116] ∨ sd = [98, 97, 99, 107] := .inl hb1
                clear hb1
                cases hp : parseL cl
                case none =>
                  have HP12 := Lib.hid (parse_none hp).1
                  have HCP := Lib.hid (show chartP l = none from HGO.out none (by have h9 := HD.out; rw [HS3.out rfl hp] at h9; exact h9))
                  clear hp hor hbk HD HS1 HS2 HS3 HS4
                  go_wp2_with (first
                    | (go_at_call 42; go_loud ((with_reducible refine (HPA.out _).mono ?_); rintro e w5 ⟨v5, rfl, hv5, hq5⟩; rw [HP12.out]; obtain ⟨A5, c5, rfl, -, -⟩ := own_vecB hv5; have HP5 := Lib.hid (HP2.out.ext (((Ext.refl _).alloc _).trans hq5)); clear hq5 hv5; obtain ⟨k0, k1, k2, k3, f0, f1, f2, z0, z1, z2⟩ := HP5.out.facts)))
                  obtain ⟨y0, y1⟩ := res_cells (v0 := .int .i64 0) (v1 := .slice none 0 0) k0 k1
                  exact bodyPost_ret (v := .tuple #[.agg #[.int .i64 0, .slice none 0 0], .int .i64 12]) (by simp [results, Tryz.f13, go_sem, y0, y1]) rfl (CParseR.no HCP.out rfl (Below.setCell (Below.setCell (HP5.out.e0.trans HP5.out.e1) (by simp) _) (by simp) _))
                case some y =>
                  have HP0 := Lib.hid (parse_some hp)
                  have HDN := Lib.hid (by have h9 := HD.out; rw [HS4.out y hor rfl hp, hbk] at h9; exact h9)
                  have hx9 := allE_e (parse_iff.1 hp).2.1
                  have HBY := Lib.hid (bytes_ok hx9.2.1)
                  have hyl := hx9.1
                  clear hp hor hbk HD HS1 HS2 HS3 HS4 hx9
                  go_wp2_with (first
                    | (go_at_call 42; go_loud ((with_reducible refine (HPA.out _).mono ?_); rintro e w5 ⟨v5, rfl, hv5, hq5⟩; rw [HP0.out.2] at hv5; rw [HP0.out.1]; obtain ⟨A5, c5, rfl, hve5, hbl5⟩ := own_vecB hv5; obtain ⟨hcq, hfq, hzq⟩ := hq5.facts; have u0 : w5.cell? ⟨wr.heap.size, 0, none⟩ = some (.bool false) := (by rw [hcq _ _ (by simp)]; simp [go_sem]); have u1 : w5.cell? ⟨wr.heap.size, 1, none⟩ = some (.slice none 0 0) := (by rw [hcq _ _ (by simp)]; simp [go_sem]); have u2 : w5.frozen? ⟨wr.heap.size, 1, none⟩ = false := (by rw [hfq _ _ (by simp)]; simp [go_sem]); have u3 : wr.heap.size < w5.heap.size := hzq _ (by simp); have HP5 := Lib.hid (HP2.out.ext (show Ext wr (w5.setCell ⟨wr.heap.size, 1, none⟩ (.slice A5 y.length c5)) from Below.setCell (((Ext.refl wr).alloc _).trans hq5) (Nat.le_refl _) _)); have HFZ := Lib.hid (own_frozen hv5); have HVE := Lib.hid (parse_cells (g := wr.heap.size) (o := 1) (u := .slice A5 y.length c5) hve5 hbl5 (by simp)); have HBL := Lib.hid (fun h9 b9 off9 e9 => (show W.heap.size ≤ b9 ∧ some b9 ≠ (Value.slice A9 acc.length c9).ownBlock from ⟨Nat.le_trans HP2.out.gsz.1 (Nat.le_of_lt (by have h6 := hbl5 h9 b9 off9 e9; simp only [World.size_alloc] at h6; omega)), fun e8 => by have h7 := (HP2.out.own.blk b9 e8.symm).2; have h6 := hbl5 h9 b9 off9 e9; simp only [World.size_alloc] at h6; omega⟩)); obtain ⟨k0, k1, k2, k3, f0, f1, f2, z0, z1, z2⟩ := (HP2.out.ext (show Ext wr w5 from (((Ext.refl wr).alloc _).trans hq5))).facts; clear hq5 hv5 hve5 hbl5 hcq hfq hzq))
                    | (at_builtin; go_loud (refine wpList_append_rws (w := W) (t := acc) (r := [⟨false, y⟩]) (ys := [⟨false, A5, y.length, c5⟩]) 22 46 (.agg #[.bool false, .slice none 0 0]) 32 (by rfl) (by rfl) Tryz.underlying22 info_row (by rfl) (by omega) (by rfl) (by rfl) (HP5.out.own.ext (by repeat (first | exact Ext.refl _ | refine Ext.drew ?_ | refine Ext.drewN ?_ _ | refine Ext.alloc ?_ _))) (HP5.out.e1.trans (by repeat (first | exact Ext.refl _ | refine Ext.drew ?_ | refine Ext.drewN ?_ _ | refine Ext.alloc ?_ _))) (Vec.lit2 (w := w5.setCell ⟨wr.heap.size, 1, none⟩ (.slice A5 y.length c5)) (by first | rfl | (simp; done)) (by rfl) (by rfl)) (ros_one (show RoAt _ (Kr _ _ _) ⟨false, A5, y.length, c5⟩ ⟨false, y⟩ from ⟨rfl, HVE.out.ext (by repeat (first | exact Ext.refl _ | refine Ext.drew ?_ | refine Ext.drewN ?_ _ | refine Ext.alloc ?_ _)), by show y.length ≤ maxLen; unfold maxLen; omega, HBY.out, fun h9 b9 off9 e9 => ⟨(HBL.out h9 b9 off9 e9).1, (HBL.out h9 b9 off9 e9).2, fun o => (Ext.frozenAt (w := w5.setCell ⟨wr.heap.size, 1, none⟩ (.slice A5 y.length c5)) (by repeat (first | exact Ext.refl _ | refine Ext.drew ?_ | refine Ext.drewN ?_ _ | refine Ext.alloc ?_ _)) ⟨b9, o, none⟩ (by simpa using (HFZ.out h9 b9 off9 e9).2)).trans ((World.frozen?_setCell _ _ _ _).trans ((HFZ.out h9 b9 off9 e9).1 o))⟩⟩)) (by omega) ?_; intro v' w6 hown6 hext6; obtain ⟨A6, c6, rfl, -⟩ := own_rws hown6 (by omega); have HL6 := Lib.hid HP5.out.lt; have i0 : w6.cell? ⟨w3.heap.size, 1, none⟩ = some (.slice A9 acc.length c9) := ((hext6.out.facts.1 _ _ HL6.out.2.2.2).trans HP5.out.c1); have i1 : w6.frozen? ⟨w3.heap.size, 1, none⟩ = false := ((hext6.out.facts.2.1 _ _ HL6.out.2.2.2).trans (HP5.out.z2 1)); have i2 : w3.heap.size < w6.heap.size := (hext6.out.facts.2.2 _ HL6.out.2.2.2); have HP7 := Lib.hid (HP5.out.rows_ (acc2 := acc ++ [⟨false, y⟩]) hext6.out (by rw [List.length_append]; exact hown6)))))
                  go_roundw
                  case rel => rw [hak] at HP7; exact ⟨_, acc ++ [⟨false, y⟩], _, k + 1, by go_num, by omega, by omega, by rw [List.length_append]; simp only [List.length_singleton]; omega, HP7, HDN⟩
                  case measure => simp [intOf] <;> omega
              by_cases hb2 : sd = [98, 97, 99, 107]
              case pos =>
                have s1 : (sd == [102, 114, 111, 110, 116]) = false := by rw [hb2]; rfl
                have s2 : (sd == [98, 97, 99, 107]) = true := by rw [hb2]; rfl
                have hbk : decide (sd = sideT true) = true := by rw [hb2]; rfl
                have hor : sd = [102, 114, 111, 110, 116] ∨ sd = [98, 97, 99, 107] := .inr hb2
                clear hb1 hb2
                cases hp : parseL cl
                case none =>
                  have HP12 := Lib.hid (parse_none hp).1
                  have HCP := Lib.hid (show chartP l = none from HGO.out none (by have h9 := HD.out; rw [HS3.out rfl hp] at h9; exact h9))
                  clear hp hor hbk HD HS1 HS2 HS3 HS4
                  go_wp2_with (first
                    | (go_at_call 42; go_loud ((with_reducible refine (HPA.out _).mono ?_); rintro e w5 ⟨v5, rfl, hv5, hq5⟩; rw [HP12.out]; obtain ⟨A5, c5, rfl, -, -⟩ := own_vecB hv5; have HP5 := Lib.hid (HP2.out.ext (((Ext.refl _).alloc _).trans hq5)); clear hq5 hv5; obtain ⟨k0, k1, k2, k3, f0, f1, f2, z0, z1, z2⟩ := HP5.out.facts)))
                  obtain ⟨y0, y1⟩ := res_cells (v0 := .int .i64 0) (v1 := .slice none 0 0) k0 k1
                  exact bodyPost_ret (v := .tuple #[.agg #[.int .i64 0, .slice none 0 0], .int .i64 12]) (by simp [results, Tryz.f13, go_sem, y0, y1]) rfl (CParseR.no HCP.out rfl (Below.setCell (Below.setCell (HP5.out.e0.trans HP5.out.e1) (by simp) _) (by simp) _))
                case some y =>
                  have HP0 := Lib.hid (parse_some hp)
                  have HDN := Lib.hid (by have h9 := HD.out; rw [HS4.out y hor rfl hp, hbk] at h9; exact h9)
                  have hx9 := allE_e (parse_iff.1 hp).2.1
                  have HBY := Lib.hid (bytes_ok hx9.2.1)
                  have hyl := hx9.1
                  clear hp hor hbk HD HS1 HS2 HS3 HS4 hx9
                  go_wp2_with (first
                    | (go_at_call 42; go_loud ((with_reducible refine (HPA.out _).mono ?_); rintro e w5 ⟨v5, rfl, hv5, hq5⟩; rw [HP0.out.2] at hv5; rw [HP0.out.1]; obtain ⟨A5, c5, rfl, hve5, hbl5⟩ := own_vecB hv5; obtain ⟨hcq, hfq, hzq⟩ := hq5.facts; have u0 : w5.cell? ⟨wr.heap.size, 0, none⟩ = some (.bool true) := (by rw [hcq _ _ (by simp)]; simp [go_sem]); have u1 : w5.cell? ⟨wr.heap.size, 1, none⟩ = some (.slice none 0 0) := (by rw [hcq _ _ (by simp)]; simp [go_sem]); have u2 : w5.frozen? ⟨wr.heap.size, 1, none⟩ = false := (by rw [hfq _ _ (by simp)]; simp [go_sem]); have u3 : wr.heap.size < w5.heap.size := hzq _ (by simp); have HP5 := Lib.hid (HP2.out.ext (show Ext wr (w5.setCell ⟨wr.heap.size, 1, none⟩ (.slice A5 y.length c5)) from Below.setCell (((Ext.refl wr).alloc _).trans hq5) (Nat.le_refl _) _)); have HFZ := Lib.hid (own_frozen hv5); have HVE := Lib.hid (parse_cells (g := wr.heap.size) (o := 1) (u := .slice A5 y.length c5) hve5 hbl5 (by simp)); have HBL := Lib.hid (fun h9 b9 off9 e9 => (show W.heap.size ≤ b9 ∧ some b9 ≠ (Value.slice A9 acc.length c9).ownBlock from ⟨Nat.le_trans HP2.out.gsz.1 (Nat.le_of_lt (by have h6 := hbl5 h9 b9 off9 e9; simp only [World.size_alloc] at h6; omega)), fun e8 => by have h7 := (HP2.out.own.blk b9 e8.symm).2; have h6 := hbl5 h9 b9 off9 e9; simp only [World.size_alloc] at h6; omega⟩)); obtain ⟨k0, k1, k2, k3, f0, f1, f2, z0, z1, z2⟩ := (HP2.out.ext (show Ext wr w5 from (((Ext.refl wr).alloc _).trans hq5))).facts; clear hq5 hv5 hve5 hbl5 hcq hfq hzq))
                    | (at_builtin; go_loud (refine wpList_append_rws (w := W) (t := acc) (r := [⟨true, y⟩]) (ys := [⟨true, A5, y.length, c5⟩]) 22 46 (.agg #[.bool false, .slice none 0 0]) 32 (by rfl) (by rfl) Tryz.underlying22 info_row (by rfl) (by omega) (by rfl) (by rfl) (HP5.out.own.ext (by repeat (first | exact Ext.refl _ | refine Ext.drew ?_ | refine Ext.drewN ?_ _ | refine Ext.alloc ?_ _))) (HP5.out.e1.trans (by repeat (first | exact Ext.refl _ | refine Ext.drew ?_ | refine Ext.drewN ?_ _ | refine Ext.alloc ?_ _))) (Vec.lit2 (w := w5.setCell ⟨wr.heap.size, 1, none⟩ (.slice A5 y.length c5)) (by first | rfl | (simp; done)) (by rfl) (by rfl)) (ros_one (show RoAt _ (Kr _ _ _) ⟨true, A5, y.length, c5⟩ ⟨true, y⟩ from ⟨rfl, HVE.out.ext (by repeat (first | exact Ext.refl _ | refine Ext.drew ?_ | refine Ext.drewN ?_ _ | refine Ext.alloc ?_ _)), by show y.length ≤ maxLen; unfold maxLen; omega, HBY.out, fun h9 b9 off9 e9 => ⟨(HBL.out h9 b9 off9 e9).1, (HBL.out h9 b9 off9 e9).2, fun o => (Ext.frozenAt (w := w5.setCell ⟨wr.heap.size, 1, none⟩ (.slice A5 y.length c5)) (by repeat (first | exact Ext.refl _ | refine Ext.drew ?_ | refine Ext.drewN ?_ _ | refine Ext.alloc ?_ _)) ⟨b9, o, none⟩ (by simpa using (HFZ.out h9 b9 off9 e9).2)).trans ((World.frozen?_setCell _ _ _ _).trans ((HFZ.out h9 b9 off9 e9).1 o))⟩⟩)) (by omega) ?_; intro v' w6 hown6 hext6; obtain ⟨A6, c6, rfl, -⟩ := own_rws hown6 (by omega); have HL6 := Lib.hid HP5.out.lt; have i0 : w6.cell? ⟨w3.heap.size, 1, none⟩ = some (.slice A9 acc.length c9) := ((hext6.out.facts.1 _ _ HL6.out.2.2.2).trans HP5.out.c1); have i1 : w6.frozen? ⟨w3.heap.size, 1, none⟩ = false := ((hext6.out.facts.2.1 _ _ HL6.out.2.2.2).trans (HP5.out.z2 1)); have i2 : w3.heap.size < w6.heap.size := (hext6.out.facts.2.2 _ HL6.out.2.2.2); have HP7 := Lib.hid (HP5.out.rows_ (acc2 := acc ++ [⟨true, y⟩]) hext6.out (by rw [List.length_append]; exact hown6)))))
                  go_roundw
                  case rel => rw [hak] at HP7; exact ⟨_, acc ++ [⟨true, y⟩], _, k + 1, by go_num, by omega, by omega, by rw [List.length_append]; simp only [List.length_singleton]; omega, HP7, HDN⟩
                  case measure => simp [intOf] <;> omega
              have s1 : (sd == [102, 114, 111, 110, 116]) = false := by simpa using hb1
              have s2 : (sd == [98, 97, 99, 107]) = false := by simpa using hb2
              have HCP := Lib.hid (show chartP l = none from HGO.out none (by have h9 := HD.out; rw [HS1.out hb1 hb2] at h9; exact h9))
              clear hb1 hb2
              go_wp2_with fail
              obtain ⟨y0, y1⟩ := res_cells (v0 := .int .i64 0) (v1 := .slice none 0 0) k0 k1
              exact bodyPost_ret (v := .tuple #[.agg #[.int .i64 0, .slice none 0 0], .int .i64 12]) (by simp [results, Tryz.f13, go_sem, y0, y1]) rfl (CParseR.no HCP.out rfl (Below.setCell (Below.setCell (HP2.out.e0.trans HP2.out.e1) (by simp) _) (by simp) _))
      · have hfin : rrowsP [] ((ws.drop 1).take (N - 1 - 1)) = some acc := by
          have h9 := HR.out
          rw [show N - 1 - k = 0 by omega, List.take_zero] at h9
          exact h9
        have hend := HGO.out (some acc) hfin
        rw [Option.bind_some] at hend
        have p1 : ¬ ((k : Int) + 1 < (N : Int)) := by omega
        have HRW := Lib.hid hrw
        have HEQ := Lib.hid hend
        clear hrw hfin hend HR HWL
        by_cases h0 : chkC (nn : Int) acc = 0
        case neg =>
          obtain ⟨q, hq⟩ : ∃ q, chkC (nn : Int) acc = q := ⟨_, rfl⟩
          have HC0 := Lib.hid hq
          have HCP := Lib.hid (HEQ.out.trans (if_neg (fun h => h0 h.1)))
          have hne : (q != 0) = true := by rw [hq] at h0; simpa using h0
          clear h0 hq HEQ
          go_wp2_with (first
            | (go_at_call 16; go_loud ((with_reducible refine (rccheck_any (nn : Int) A9 acc.length c9 acc _ (HRW.out.any.ext (by repeat (first | exact Ext.refl _ | refine Ext.drew ?_ | refine Ext.drewN ?_ _ | refine Ext.alloc ?_ _)))).mono ?_); rintro e w7 ⟨rfl, hq7⟩; rw [HC0.out]; have HP7 := Lib.hid (HP.out.ext hq7); clear hq7; obtain ⟨j0, j1, j2, j3, j4, j5, j6, j7, j8, j9⟩ := HP7.out.facts)))
          obtain ⟨y0, y1⟩ := res_cells (v0 := .int .i64 0) (v1 := .slice none 0 0) j0 j1
          exact bodyPost_ret (v := .tuple #[.agg #[.int .i64 0, .slice none 0 0], .int .i64 12]) (by simp [results, Tryz.f13, go_sem, y0, y1]) rfl (CParseR.no HCP.out rfl (Below.setCell (Below.setCell (HP7.out.e0.trans HP7.out.e1) (by simp) _) (by simp) _))
        have HC0 := Lib.hid h0
        have HWR := Lib.hid (fun (w' : World) (hb : Ext wo w') => cwritten_any (nn : Int) A9 acc.length c9 acc w' (HRW.out.any.ext hb) h0)
        obtain ⟨T, hT⟩ : ∃ T, chartL (nn : Int) acc = T := ⟨_, rfl⟩
        rw [hT] at HEQ HWR
        by_cases hT0 : T = l
        · have HCP := Lib.hid (HEQ.out.trans (if_pos ⟨h0, hT0⟩))
          have hTe : (T == l) = true := by simpa using hT0
          clear HEQ hT0 h0 hT
          go_wp2_with (first
            | (go_at_call 16; go_loud ((with_reducible refine (rccheck_any (nn : Int) A9 acc.length c9 acc _ (HRW.out.any.ext (by repeat (first | exact Ext.refl _ | refine Ext.drew ?_ | refine Ext.drewN ?_ _ | refine Ext.alloc ?_ _)))).mono ?_); rintro e w7 ⟨rfl, hq7⟩; rw [HC0.out]; have HP7 := Lib.hid (HP.out.ext hq7); have HQ7 := Lib.hid hq7; clear hq7; obtain ⟨j0, j1, j2, j3, j4, j5, j6, j7, j8, j9⟩ := HP7.out.facts))
            | (go_at_call 34; go_loud ((with_reducible refine (HWR.out _ HQ7.out).mono ?_); rintro e w8 ⟨rfl, hq8⟩; have HP8 := Lib.hid (HP7.out.ext hq8); have HQ8 := Lib.hid (HQ7.out.trans hq8); clear hq8; obtain ⟨j0, j1, j2, j3, j4, j5, j6, j7, j8, j9⟩ := HP8.out.facts)))
          obtain ⟨y0, y1⟩ := res_cells (v0 := .int .i64 (nn : Int)) (v1 := .slice A9 acc.length c9) j0 j1
          have HR9 := Lib.hid (res_rws (g := w.heap.size) (v0 := .int .i64 (nn : Int)) (v1 := .slice A9 acc.length c9) (HRW.out.ext HQ8.out) HP8.out.gsz.2.2 HP8.out.gsz.2.1)
          exact bodyPost_ret (v := .tuple #[.agg #[.int .i64 (nn : Int), .slice A9 acc.length c9], .int .i64 0]) (by simp [results, Tryz.f13, go_sem, y0, y1]) rfl (CParseR.yes HCP.out rfl (Below.setCell (Below.setCell (HP8.out.e0.trans HP8.out.e1) (by simp) _) (by simp) _) HR9.out)
        · have HCP := Lib.hid (HEQ.out.trans (if_neg (fun h => hT0 h.2)))
          have hTe : (T == l) = false := by simpa using hT0
          clear HEQ hT0 h0 hT
          go_wp2_with (first
            | (go_at_call 16; go_loud ((with_reducible refine (rccheck_any (nn : Int) A9 acc.length c9 acc _ (HRW.out.any.ext (by repeat (first | exact Ext.refl _ | refine Ext.drew ?_ | refine Ext.drewN ?_ _ | refine Ext.alloc ?_ _)))).mono ?_); rintro e w7 ⟨rfl, hq7⟩; rw [HC0.out]; have HP7 := Lib.hid (HP.out.ext hq7); have HQ7 := Lib.hid hq7; clear hq7; obtain ⟨j0, j1, j2, j3, j4, j5, j6, j7, j8, j9⟩ := HP7.out.facts))
            | (go_at_call 34; go_loud ((with_reducible refine (HWR.out _ HQ7.out).mono ?_); rintro e w8 ⟨rfl, hq8⟩; have HP8 := Lib.hid (HP7.out.ext hq8); have HQ8 := Lib.hid (HQ7.out.trans hq8); clear hq8; obtain ⟨j0, j1, j2, j3, j4, j5, j6, j7, j8, j9⟩ := HP8.out.facts)))
          obtain ⟨y0, y1⟩ := res_cells (v0 := .int .i64 0) (v1 := .slice none 0 0) j0 j1
          exact bodyPost_ret (v := .tuple #[.agg #[.int .i64 0, .slice none 0 0], .int .i64 12]) (by simp [results, Tryz.f13, go_sem, y0, y1]) rfl (CParseR.no HCP.out rfl (Below.setCell (Below.setCell (HP8.out.e0.trans HP8.out.e1) (by simp) _) (by simp) _))
theorem crparse_any (l : List UInt8) (hl : l.length ≤ 1000000000) (w : World) : Calls Tryz.prog 13 #[.string ⟨l.toArray⟩] w (CParseR l w) := by
  by_cases h : 20000 < l.length
  · exact crparse_long l h (by omega) w
  · exact crparse_main l (by omega) w
end Go.Proofs.YtjjhoonkooihjaaGreatDoor
