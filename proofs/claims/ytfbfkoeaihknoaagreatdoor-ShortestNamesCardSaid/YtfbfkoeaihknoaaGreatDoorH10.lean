/- The walks of expand and Cells of terms. -/
import Derived.Test.YtfbfkoeaihknoaaGreatDoorH09
import Derived.Test.YtfbfkoeaihknoaaGreatDoorH03
import Derived.Test.YtfbfkoeaihknoaaGreatDoorH06
import Derived.Test.YtfbfkoeaihknoaaGreatDoorH01
namespace Go.Proofs.YtfbfkoeaihknoaaGreatDoor
set_option maxRecDepth 100000
open Go.RowKit Go.ChangeShapes Go.WideShapes Go.Joins
/-- the cells that a term repeats -/
def ownC (c : St) (g : Tms) : List St := if g.cnt = 0 then [c] else g.cells
theorem own_one (c : St) : ownC c .nil = [c] := rfl
theorem own_grp (c : St) {g : Tms} (h : 0 < g.cnt) : ownC c g = g.cells := by rw [ownC, if_neg (by omega)]
theorem cells_own (N : Int) (c : St) (g r : Tms) : (Tms.cons N c g r).cells = rep N.toNat (ownC c g) ++ r.cells := by
  by_cases h : g = .nil
  · subst h
    rw [cells_one, own_one, rep_one]
  · rw [cells_grp _ _ _ _ h, ownC, if_neg (fun e => h (cnt_nil e))]
set_option maxHeartbeats 4000000 in
theorem expand_any : ∀ (M : Nat), M ≤ 5000 → ∀ (t : Tms), t.size ≤ M → fineT t = true → t.cells.length ≤ 200 → ∀ (A : Option Addr) (n cap : Nat) (w : World), Tv w A n t →
    Calls Tryz.prog 42 #[.slice A n cap] w (StsR t.cells w) := by
  intro M
  induction M using Nat.strongRecOn with
  | ind M ih =>
    intro hM t ht hf hcl A n cap w hv
    have HI := Lib.hid ih
    have HV := Lib.hid hv
    have hnm : n ≤ 5000 := by have h1 := hv.1; have h2 := cnt_size t; omega
    have HF := Lib.hid hf
    clear ih hv hf
    go_enter Tryz.func42, Tryz.ntmps42
    go_wp2_with fail
    go_loopw [3, 9] (fun u i wr => ∃ (V : Value) (k : Nat) (pre : List St) (rest : Tms), V = u ∧ i = .int .i64 k ∧ rest.cnt + k = n ∧ rest.size ≤ M ∧ pre.length + rest.cells.length ≤ 200 ∧
      Hid (OwnV shSt wr w.heap.size 39 V pre.length pre ∧ pre ++ rest.cells = t.cells ∧ fineT rest = true ∧ Ext w wr ∧ (0 < rest.cnt → ∃ b off, A = some ⟨b, off, none⟩ ∧ b < w.heap.size ∧ TAt w rest b (off + k * 6)))) (fun _ i _ => n - (intOf i).toNat)
    case atStart =>
      refine ⟨_, 0, [], t, rfl, rfl, by have := HV.out.1; omega, ht, by simpa using hcl, Lib.hid ⟨OwnV.nil _ _ _ _, rfl, HF.out, Ext.refl _, fun h => ?_⟩⟩
      obtain ⟨h1, h2, h3⟩ := HV.out
      obtain ⟨b, off, e, hb, hc⟩ := h3 (by omega)
      exact ⟨b, off, e, hb, by simpa using hc⟩
    case round =>
      obtain ⟨V, k, pre, rest, rfl, rfl, hcnt, hrs, hpl, HH⟩ := hrel
      by_cases hlt : 0 < rest.cnt
      · obtain ⟨N, c, g, r, rfl⟩ := cnt_cons hlt
        obtain ⟨b, off, rfl, hb1, hc⟩ := HH.out.2.2.2.2 hlt
        obtain ⟨A', n', cap', d0, d1, d2, d3, d4, d5, hkk, hg, hr⟩ := hc.head
        have hxr := HH.out.2.2.2.1
        obtain ⟨⟨hN0, hN1⟩, hfg, hfr⟩ := fine_cons HH.out.2.2.1
        have HFR := Lib.hid hfr
        simp only [Tms.cnt, Tms.size] at hcnt hrs
        have hkn : k < n := by omega
        have hz : b < wr.heap.size := Nat.lt_of_lt_of_le hb1 (Below.size hxr)
        have HCS := Lib.hid (cells_own N c g r)
        have hcb : (rep N.toNat (ownC c g)).length + r.cells.length = (Tms.cons N c g r).cells.length := by rw [HCS.out, List.length_append]
        rw [rep_len] at hcb
        have hgcl : 0 < g.cnt → g.cells.length ≤ 200 := fun h => by
          rw [own_grp c h] at hcb
          have : 1 * g.cells.length ≤ N.toNat * g.cells.length := Nat.mul_le_mul_right _ (by omega)
          omega
        have hcall := fun (h0 : 0 < g.cnt) (w' : World) (h : Ext w w') => HI.out (M - 1) (by omega) (by omega) g (by omega) hfg (hgcl h0) A' n' cap' w' (hg.ext h)
        have HC := Lib.hid hcall
        have hgn := Lib.hid hg.1
        have q0 : (0 : Int) ≤ (k : Int) := by omega
        have q1 : (k : Int) < (n : Int) := by omega
        have HE0 := Lib.hid hxr
        have HCB := Lib.hid hcb
        have HKK := Lib.hid hkk
        obtain ⟨ck, cp, ca, cb⟩ := c
        simp only at d1 d2 d3 d4
        obtain ⟨wq, rfl⟩ : ∃ wq : World, wq = wr := ⟨_, rfl⟩
        have fwd : ∀ (o : Nat) (u : Value), w.cell? ⟨b, o, none⟩ = some u → wq.cell? ⟨b, o, none⟩ = some u := fun o u h => (Below.cell (p := ⟨b, o, none⟩) hxr hb1).trans h
        have c0 := fwd _ _ d0
        have c1 := fwd _ _ d1
        have c2 := fwd _ _ d2
        have c3 := fwd _ _ d3
        have c4 := fwd _ _ d4
        have c5 := fwd _ _ d5
        have HBL := Lib.hid (show ∀ b, wq.heap.size ≤ b → some b ≠ V.ownBlock from fun b hb e => by have := (OwnV.blk HH.out.1 b e.symm).2; omega)
        clear hcall hc hxr hfr hfg hgcl hcb hkk fwd
        by_cases hn' : 0 < n'
        · have HOW := Lib.hid (own_grp ⟨ck, cp, ca, cb⟩ (g := g) (by have := hgn.out; omega))
          go_wp2_with (go_at_call 42; ((with_reducible refine (HC.out (by have := hgn.out; omega) _ (HE0.out.trans (by repeat (first | exact Ext.refl _ | assumption | refine Ext.alloc ?_ _ | refine Ext.drew ?_ | refine Ext.drewN ?_ _ | refine Ext.trans ?_ (by assumption))))).mono ?_); rintro e w1 ⟨A1, m1, cap1, rfl, hq1, hv1, hbl1⟩; obtain ⟨hf1, hf2, hf3⟩ := hq1.facts))
          have HXW := Lib.hid (show Ext wq w1 by repeat (first | exact Ext.refl _ | assumption | refine Ext.alloc ?_ _ | refine Ext.drew ?_ | refine Ext.drewN ?_ _ | refine Ext.trans ?_ (by assumption)))
          have HOV := Lib.hid (show VecX w1 V.ownBlock A1 m1 g.cells from ⟨hv1, fun h b off e => HBL.out b (by have := hbl1 h b off e; simp at this; omega)⟩)
          clear hv1 hq1 hbl1
          have HL1 := Lib.hid (HOV.out.1.len)
          have HB := Lib.hid (show pre.length + N.toNat * m1 + r.cells.length ≤ 200 by have h1 := HCB.out; rw [HOW.out, HL1.out] at h1; omega)
          have HCS2 := Lib.hid (show (Tms.cons N ⟨ck, cp, ca, cb⟩ g r).cells = rep N.toNat g.cells ++ r.cells by rw [HCS.out, HOW.out])
          clear hpl
          go_loopw [3, 25] (fun u j wi => ∃ (V : Value) (q : Nat), V = u ∧ q ≤ N.toNat ∧ j = .int .i64 q ∧ Hid (OwnV shSt wi w.heap.size 39 V (pre.length + q * m1) (pre ++ rep q g.cells)) ∧ Hid (VecX wi V.ownBlock A1 m1 g.cells ∧ Ext w wi)) (fun _ j _ => N.toNat - (intOf j).toNat)
          case atStart => exact ⟨_, 0, rfl, by omega, rfl, Lib.hid (by have := (HH.out.1).ext HXW.out; simpa [rep] using this), Lib.hid ⟨HOV.out, HE0.out.trans HXW.out⟩⟩
          case round =>
            obtain ⟨V2, q, rfl, hq, rfl, hown, hexi⟩ := hrel
            have hx0 := hexi.out.2
            obtain ⟨hz1, hz2, hz3⟩ := hx0.facts
            by_cases hlq : q < N.toNat
            · have qN : (q : Int) < N := by omega
              have HKB := Lib.hid (show pre.length + q * m1 + m1 ≤ 1000000 by
                have h1 : (q + 1) * m1 ≤ N.toNat * m1 := Nat.mul_le_mul_right _ (by omega)
                rw [Nat.add_mul, Nat.one_mul] at h1
                have := HB.out
                omega)
              go_wp2_with (at_builtin; refine wpList_append_vecsB (S := shSt) (w := w) 35 39 (.agg #[.int .u8 0, .bool false, .int .i64 0, .int .i64 0]) 24 (by rfl) (by rfl) Tryz.underlying35 info_st (by rfl) (by omega) (by rfl) (by rfl) hown.out hx0 hexi.out.1.1 HKB.out ?_; intro v' w3 hown3 hext3 hgr3)
              go_roundw
              case rel =>
                refine ⟨v', q + 1, rfl, by omega, by go_num, Lib.hid ?_, Lib.hid ⟨hexi.out.1.step hgr3.out.1 hgr3.out.2, hext3.out⟩⟩
                have e1 : pre.length + (q + 1) * m1 = pre.length + q * m1 + m1 := by rw [Nat.add_mul, Nat.one_mul]; omega
                rw [e1, rep_snoc, ← List.append_assoc]
                exact hown3
              case measure => simp [intOf]; omega
            · obtain rfl : q = N.toNat := by omega
              have qN : ¬ ((N.toNat : Int) < N) := by omega
              go_wp2
              go_roundw
              case rel =>
                obtain ⟨e2, e3, e4, e5, -⟩ := HH.out
                refine ⟨V2, k + 1, pre ++ rep N.toNat g.cells, r, rfl, by go_num, by omega, by omega, ?_, Lib.hid ⟨?_, ?_, HFR.out, hx0, fun h => ?_⟩⟩
                · rw [List.length_append, rep_len, HL1.out]; have := HB.out; omega
                · rw [List.length_append, rep_len, HL1.out]
                  exact hown.out
                · rw [← e3, HCS2.out, List.append_assoc]
                · refine ⟨b, off, rfl, hb1, ?_⟩
                  rw [show off + (k + 1) * 6 = off + k * 6 + 6 by omega]
                  exact hr
              case measure => simp [intOf]; omega
        · obtain rfl := cnt_nil (t := g) (by have := hgn.out; omega)
          obtain rfl : n' = 0 := by omega
          have HOW := Lib.hid (own_one ⟨ck, cp, ca, cb⟩)
          go_wp2_with fail
          have HXW := Lib.hid (show Ext wq ((wq.alloc (.cells #[.int .i64 N, .int .u8 ck, .bool cp, .int .i64 ca, .int .i64 cb, .slice A' 0 cap'] 48)).alloc (.cells #[.int .u8 ck, .bool cp, .int .i64 ca, .int .i64 cb] 39)) by repeat (first | exact Ext.refl _ | assumption | refine Ext.alloc ?_ _ | refine Ext.drew ?_ | refine Ext.drewN ?_ _ | refine Ext.trans ?_ (by assumption)))
          have HOV := Lib.hid (show VecX ((wq.alloc (.cells #[.int .i64 N, .int .u8 ck, .bool cp, .int .i64 ca, .int .i64 cb, .slice A' 0 cap'] 48)).alloc (.cells #[.int .u8 ck, .bool cp, .int .i64 ca, .int .i64 cb] 39)) V.ownBlock (some ⟨(wq.heap.size + 1), 0, none⟩) 1 [⟨ck, cp, ca, cb⟩] from ⟨Vec.lit2 (by simp) rfl rfl, fun h b off e => HBL.out b (by cases e; omega)⟩)
          have HL1 := Lib.hid (HOV.out.1.len)
          have HB := Lib.hid (show pre.length + N.toNat * 1 + r.cells.length ≤ 200 by have h1 := HCB.out; rw [HOW.out, HL1.out] at h1; omega)
          have HCS2 := Lib.hid (show (Tms.cons N ⟨ck, cp, ca, cb⟩ .nil r).cells = rep N.toNat [⟨ck, cp, ca, cb⟩] ++ r.cells by rw [HCS.out, HOW.out])
          clear hpl
          go_loopw [3, 25] (fun u j wi => ∃ (V : Value) (q : Nat), V = u ∧ q ≤ N.toNat ∧ j = .int .i64 q ∧ Hid (OwnV shSt wi w.heap.size 39 V (pre.length + q * 1) (pre ++ rep q [⟨ck, cp, ca, cb⟩])) ∧ Hid (VecX wi V.ownBlock (some ⟨(wq.heap.size + 1), 0, none⟩) 1 [⟨ck, cp, ca, cb⟩] ∧ Ext w wi)) (fun _ j _ => N.toNat - (intOf j).toNat)
          case atStart => exact ⟨_, 0, rfl, by omega, rfl, Lib.hid (by have := (HH.out.1).ext HXW.out; simpa [rep] using this), Lib.hid ⟨HOV.out, HE0.out.trans HXW.out⟩⟩
          case round =>
            obtain ⟨V2, q, rfl, hq, rfl, hown, hexi⟩ := hrel
            have hx0 := hexi.out.2
            obtain ⟨hz1, hz2, hz3⟩ := hx0.facts
            by_cases hlq : q < N.toNat
            · have qN : (q : Int) < N := by omega
              have HKB := Lib.hid (show pre.length + q * 1 + 1 ≤ 1000000 by
                have h1 : (q + 1) * 1 ≤ N.toNat * 1 := Nat.mul_le_mul_right _ (by omega)
                rw [Nat.add_mul, Nat.one_mul] at h1
                have := HB.out
                omega)
              go_wp2_with (at_builtin; refine wpList_append_vecsB (S := shSt) (w := w) 35 39 (.agg #[.int .u8 0, .bool false, .int .i64 0, .int .i64 0]) 24 (by rfl) (by rfl) Tryz.underlying35 info_st (by rfl) (by omega) (by rfl) (by rfl) hown.out hx0 hexi.out.1.1 HKB.out ?_; intro v' w3 hown3 hext3 hgr3)
              go_roundw
              case rel =>
                refine ⟨v', q + 1, rfl, by omega, by go_num, Lib.hid ?_, Lib.hid ⟨hexi.out.1.step hgr3.out.1 hgr3.out.2, hext3.out⟩⟩
                have e1 : pre.length + (q + 1) * 1 = pre.length + q * 1 + 1 := by rw [Nat.add_mul, Nat.one_mul]; omega
                rw [e1, rep_snoc, ← List.append_assoc]
                exact hown3
              case measure => simp [intOf]; omega
            · obtain rfl : q = N.toNat := by omega
              have qN : ¬ ((N.toNat : Int) < N) := by omega
              go_wp2
              go_roundw
              case rel =>
                obtain ⟨e2, e3, e4, e5, -⟩ := HH.out
                refine ⟨V2, k + 1, pre ++ rep N.toNat [⟨ck, cp, ca, cb⟩], r, rfl, by go_num, by omega, by omega, ?_, Lib.hid ⟨?_, ?_, HFR.out, hx0, fun h => ?_⟩⟩
                · rw [List.length_append, rep_len, HL1.out]; have := HB.out; omega
                · rw [List.length_append, rep_len, HL1.out]
                  exact hown.out
                · rw [← e3, HCS2.out, List.append_assoc]
                · refine ⟨b, off, rfl, hb1, ?_⟩
                  rw [show off + (k + 1) * 6 = off + k * 6 + 6 by omega]
                  exact hr
              case measure => simp [intOf]; omega
      · have hn0 : rest.cnt = 0 := by omega
        obtain rfl := cnt_nil hn0
        simp only [Tms.cnt] at hcnt
        obtain ⟨e1, e2, e3, e4, -⟩ := HH.out
        simp only [Tms.cells, List.append_nil] at e2
        obtain rfl : k = n := by omega
        obtain ⟨A2, c2, rfl, hv2, hb2⟩ := own_vecB e1
        have HK2 := Lib.hid (show Vec shSt wr A2 pre.length t.cells ∧ (0 < pre.length → ∀ b off, A2 = some ⟨b, off, none⟩ → w.heap.size ≤ b) by rw [← e2]; exact ⟨hv2, hb2⟩)
        have HE := Lib.hid e4
        clear e1 e2 e3 e4 hv2 hb2
        go_wp2_with fail
        go_ret
        exact ⟨_, _, _, rfl, HE.out, HK2.out.1, HK2.out.2⟩
end Go.Proofs.YtfbfkoeaihknoaaGreatDoor
/- The contracts of Check, Expand and Size of terms, both. -/
namespace Go.Proofs.YtfbfkoeaihknoaaGreatDoor
set_option maxRecDepth 100000
open Go.RowKit Go.ChangeShapes Go.WideShapes Go.Joins
theorem tchk_4a {t : Tms} (h : 200 < t.size ∨ 8 < t.depth) : tchkE t = 4 := by rw [tchkE, if_pos h]
theorem tchk_8 {t : Tms} (h : ¬ (200 < t.size ∨ 8 < t.depth)) (h2 : fineT t = false) : tchkE t = 8 := by rw [tchkE, if_neg h, h2]; rfl
theorem tchk_4b {t : Tms} (h : ¬ (200 < t.size ∨ 8 < t.depth)) (h2 : fineT t = true) (h3 : 200 < lenT t 0) : tchkE t = 4 := by rw [tchkE, if_neg h, if_pos h2, if_pos h3]
theorem tchk_0 {t : Tms} (h : ¬ (200 < t.size ∨ 8 < t.depth)) (h2 : fineT t = true) (h3 : ¬ 200 < lenT t 0) : tchkE t = 0 := by rw [tchkE, if_neg h, if_pos h2, if_neg h3]
theorem tchk_vals (t : Tms) : tchkE t = 0 ∨ tchkE t = 4 ∨ tchkE t = 8 := by
  unfold tchkE; split
  · exact .inr (.inl rfl)
  · split
    · split
      · exact .inr (.inl rfl)
      · exact .inl rfl
    · exact .inr (.inr rfl)
set_option maxHeartbeats 1000000 in
theorem tcheck_any (t : Tms) (ht : t.size ≤ 5000) (A : Option Addr) (n cap : Nat) (w : World) (hv : Tv w A n t) :
    Calls Tryz.prog 21 #[.slice A n cap] w fun e w' => e = .returned (.int .i64 (tchkE t)) ∧ Ext w w' := by
  have HV := Lib.hid hv
  have hsz : szM t = min (t.size : Int) 201 := rfl
  have HSZ := Lib.hid hsz
  clear hv hsz
  by_cases h1 : 200 < t.size
  · have HE := Lib.hid (tchk_4a (t := t) (.inl h1))
    have hs1 : 200 < szM t := by have := HSZ.out; omega
    have hs2 : szM t ≤ 201 := by have := HSZ.out; omega
    go_enter Tryz.func21, Tryz.ntmps21
    go_wp2_with (first | (go_at_call 37; ((with_reducible refine (size_any 5000 (by omega) t ht A n cap _ (HV.out.ext (by repeat (first | exact Ext.refl _ | assumption | refine Ext.alloc ?_ _ | refine Ext.drew ?_ | refine Ext.drewN ?_ _ | refine Ext.trans ?_ (by assumption))))).mono ?_); rintro e w1 ⟨rfl, hq1⟩)))
    go_ret
    exact ⟨by rw [HE.out]; rfl, by repeat (first | exact Ext.refl _ | assumption | refine Ext.alloc ?_ _ | refine Ext.drew ?_ | refine Ext.drewN ?_ _ | refine Ext.trans ?_ (by assumption))⟩
  by_cases h2 : 8 < t.depth
  · have HE := Lib.hid (tchk_4a (t := t) (.inr h2))
    have hs1 : decide (200 < szM t) = false := by have := HSZ.out; simp; omega
    have hd1 : (8 : Int) < (t.depth : Int) := by omega
    go_enter Tryz.func21, Tryz.ntmps21
    go_wp2_with (first | (go_at_call 37; ((with_reducible refine (size_any 5000 (by omega) t ht A n cap _ (HV.out.ext (by repeat (first | exact Ext.refl _ | assumption | refine Ext.alloc ?_ _ | refine Ext.drew ?_ | refine Ext.drewN ?_ _ | refine Ext.trans ?_ (by assumption))))).mono ?_); rintro e w1 ⟨rfl, hq1⟩)))
    go_ret
    exact ⟨by rw [HE.out]; rfl, by repeat (first | exact Ext.refl _ | assumption | refine Ext.alloc ?_ _ | refine Ext.drew ?_ | refine Ext.drewN ?_ _ | refine Ext.trans ?_ (by assumption))⟩
  have hs1 : decide (200 < szM t) = false := by have := HSZ.out; simp; omega
  have hd1 : decide ((8 : Int) < (t.depth : Int)) = false := by simp; omega
  have hdn : decide (8 < t.depth) = false := by simp; omega
  cases hf : fineT t
  · have HE := Lib.hid (tchk_8 (t := t) (by omega) hf)
    have HF := Lib.hid hf
    clear hf
    go_enter Tryz.func21, Tryz.ntmps21
    go_wp2_with (first | (go_at_call 37; ((with_reducible refine (size_any 5000 (by omega) t ht A n cap _ (HV.out.ext (by repeat (first | exact Ext.refl _ | assumption | refine Ext.alloc ?_ _ | refine Ext.drew ?_ | refine Ext.drewN ?_ _ | refine Ext.trans ?_ (by assumption))))).mono ?_); rintro e w1 ⟨rfl, hq1⟩)) | (go_at_call 38; ((with_reducible refine (fine_any 5000 (by omega) t ht A n cap _ (HV.out.ext (by repeat (first | exact Ext.refl _ | assumption | refine Ext.alloc ?_ _ | refine Ext.drew ?_ | refine Ext.drewN ?_ _ | refine Ext.trans ?_ (by assumption))))).mono ?_); rintro e w2 ⟨rfl, hq2⟩; rw [HF.out])))
    go_ret
    exact ⟨by rw [HE.out]; rfl, by repeat (first | exact Ext.refl _ | assumption | refine Ext.alloc ?_ _ | refine Ext.drew ?_ | refine Ext.drewN ?_ _ | refine Ext.trans ?_ (by assumption))⟩
  · by_cases h3 : 200 < lenT t 0
    · have HE := Lib.hid (tchk_4b (t := t) (by omega) hf h3)
      have HF := Lib.hid hf
      clear hf
      go_enter Tryz.func21, Tryz.ntmps21
      go_wp2_with (first | (go_at_call 37; ((with_reducible refine (size_any 5000 (by omega) t ht A n cap _ (HV.out.ext (by repeat (first | exact Ext.refl _ | assumption | refine Ext.alloc ?_ _ | refine Ext.drew ?_ | refine Ext.drewN ?_ _ | refine Ext.trans ?_ (by assumption))))).mono ?_); rintro e w1 ⟨rfl, hq1⟩)) | (go_at_call 38; ((with_reducible refine (fine_any 5000 (by omega) t ht A n cap _ (HV.out.ext (by repeat (first | exact Ext.refl _ | assumption | refine Ext.alloc ?_ _ | refine Ext.drew ?_ | refine Ext.drewN ?_ _ | refine Ext.trans ?_ (by assumption))))).mono ?_); rintro e w2 ⟨rfl, hq2⟩; rw [HF.out])) | (go_at_call 39; ((with_reducible refine (length_any 5000 (by omega) t ht HF.out A n cap _ (HV.out.ext (by repeat (first | exact Ext.refl _ | assumption | refine Ext.alloc ?_ _ | refine Ext.drew ?_ | refine Ext.drewN ?_ _ | refine Ext.trans ?_ (by assumption))))).mono ?_); rintro e w3 ⟨rfl, hq3⟩)))
      go_ret
      exact ⟨by rw [HE.out]; rfl, by repeat (first | exact Ext.refl _ | assumption | refine Ext.alloc ?_ _ | refine Ext.drew ?_ | refine Ext.drewN ?_ _ | refine Ext.trans ?_ (by assumption))⟩
    · have HE := Lib.hid (tchk_0 (t := t) (by omega) hf h3)
      have HF := Lib.hid hf
      have hl : decide (200 < lenT t 0) = false := by simp; omega
      clear hf
      go_enter Tryz.func21, Tryz.ntmps21
      go_wp2_with (first | (go_at_call 37; ((with_reducible refine (size_any 5000 (by omega) t ht A n cap _ (HV.out.ext (by repeat (first | exact Ext.refl _ | assumption | refine Ext.alloc ?_ _ | refine Ext.drew ?_ | refine Ext.drewN ?_ _ | refine Ext.trans ?_ (by assumption))))).mono ?_); rintro e w1 ⟨rfl, hq1⟩)) | (go_at_call 38; ((with_reducible refine (fine_any 5000 (by omega) t ht A n cap _ (HV.out.ext (by repeat (first | exact Ext.refl _ | assumption | refine Ext.alloc ?_ _ | refine Ext.drew ?_ | refine Ext.drewN ?_ _ | refine Ext.trans ?_ (by assumption))))).mono ?_); rintro e w2 ⟨rfl, hq2⟩; rw [HF.out])) | (go_at_call 39; ((with_reducible refine (length_any 5000 (by omega) t ht HF.out A n cap _ (HV.out.ext (by repeat (first | exact Ext.refl _ | assumption | refine Ext.alloc ?_ _ | refine Ext.drew ?_ | refine Ext.drewN ?_ _ | refine Ext.trans ?_ (by assumption))))).mono ?_); rintro e w3 ⟨rfl, hq3⟩)))
      go_ret
      exact ⟨by rw [HE.out]; rfl, by repeat (first | exact Ext.refl _ | assumption | refine Ext.alloc ?_ _ | refine Ext.drew ?_ | refine Ext.drewN ?_ _ | refine Ext.trans ?_ (by assumption))⟩
set_option maxHeartbeats 1000000 in
theorem trcheck_any (t : Tms) (ht : t.size ≤ 5000) (A : Option Addr) (n cap : Nat) (w : World) (hv : Tv w A n t) :
    Calls Tryz.prog 31 #[.slice A n cap] w fun e w' => e = .returned (.int .i64 (tchkE t)) ∧ Ext w w' := by
  have HV := Lib.hid hv
  have hsz : szM t = min (t.size : Int) 201 := rfl
  have HSZ := Lib.hid hsz
  clear hv hsz
  by_cases h1 : 200 < t.size
  · have HE := Lib.hid (tchk_4a (t := t) (.inl h1))
    have hs1 : 200 < szM t := by have := HSZ.out; omega
    have hs2 : szM t ≤ 201 := by have := HSZ.out; omega
    go_enter Tryz.func31, Tryz.ntmps31
    go_wp2_with (first | (go_at_call 47; ((with_reducible refine (terms_any 5000 (by omega) t ht A n cap _ (HV.out.ext (by repeat (first | exact Ext.refl _ | assumption | refine Ext.alloc ?_ _ | refine Ext.drew ?_ | refine Ext.drewN ?_ _ | refine Ext.trans ?_ (by assumption))))).mono ?_); rintro e w1 ⟨rfl, hq1⟩)))
    go_ret
    exact ⟨by rw [HE.out]; rfl, by repeat (first | exact Ext.refl _ | assumption | refine Ext.alloc ?_ _ | refine Ext.drew ?_ | refine Ext.drewN ?_ _ | refine Ext.trans ?_ (by assumption))⟩
  by_cases h2 : 8 < t.depth
  · have HE := Lib.hid (tchk_4a (t := t) (.inr h2))
    have hs1 : decide (200 < szM t) = false := by have := HSZ.out; simp; omega
    have hd1 : (8 : Int) < (t.depth : Int) := by omega
    go_enter Tryz.func31, Tryz.ntmps31
    go_wp2_with (first | (go_at_call 47; ((with_reducible refine (terms_any 5000 (by omega) t ht A n cap _ (HV.out.ext (by repeat (first | exact Ext.refl _ | assumption | refine Ext.alloc ?_ _ | refine Ext.drew ?_ | refine Ext.drewN ?_ _ | refine Ext.trans ?_ (by assumption))))).mono ?_); rintro e w1 ⟨rfl, hq1⟩)) | (go_at_call 48; ((with_reducible refine (deep_any 5000 (by omega) t ht A n cap _ (HV.out.ext (by repeat (first | exact Ext.refl _ | assumption | refine Ext.alloc ?_ _ | refine Ext.drew ?_ | refine Ext.drewN ?_ _ | refine Ext.trans ?_ (by assumption))))).mono ?_); rintro e w4 ⟨rfl, hq4⟩)))
    go_ret
    exact ⟨by rw [HE.out]; rfl, by repeat (first | exact Ext.refl _ | assumption | refine Ext.alloc ?_ _ | refine Ext.drew ?_ | refine Ext.drewN ?_ _ | refine Ext.trans ?_ (by assumption))⟩
  have hs1 : decide (200 < szM t) = false := by have := HSZ.out; simp; omega
  have hd1 : decide ((8 : Int) < (t.depth : Int)) = false := by simp; omega
  have hdn : decide (8 < t.depth) = false := by simp; omega
  cases hf : fineT t
  · have HE := Lib.hid (tchk_8 (t := t) (by omega) hf)
    have HF := Lib.hid hf
    clear hf
    go_enter Tryz.func31, Tryz.ntmps31
    go_wp2_with (first | (go_at_call 47; ((with_reducible refine (terms_any 5000 (by omega) t ht A n cap _ (HV.out.ext (by repeat (first | exact Ext.refl _ | assumption | refine Ext.alloc ?_ _ | refine Ext.drew ?_ | refine Ext.drewN ?_ _ | refine Ext.trans ?_ (by assumption))))).mono ?_); rintro e w1 ⟨rfl, hq1⟩)) | (go_at_call 48; ((with_reducible refine (deep_any 5000 (by omega) t ht A n cap _ (HV.out.ext (by repeat (first | exact Ext.refl _ | assumption | refine Ext.alloc ?_ _ | refine Ext.drew ?_ | refine Ext.drewN ?_ _ | refine Ext.trans ?_ (by assumption))))).mono ?_); rintro e w4 ⟨rfl, hq4⟩)) | (go_at_call 49; ((with_reducible refine (rfine_any 5000 (by omega) t ht A n cap _ (HV.out.ext (by repeat (first | exact Ext.refl _ | assumption | refine Ext.alloc ?_ _ | refine Ext.drew ?_ | refine Ext.drewN ?_ _ | refine Ext.trans ?_ (by assumption))))).mono ?_); rintro e w2 ⟨rfl, hq2⟩; rw [HF.out])))
    go_ret
    exact ⟨by rw [HE.out]; rfl, by repeat (first | exact Ext.refl _ | assumption | refine Ext.alloc ?_ _ | refine Ext.drew ?_ | refine Ext.drewN ?_ _ | refine Ext.trans ?_ (by assumption))⟩
  · by_cases h3 : 200 < lenT t 0
    · have HE := Lib.hid (tchk_4b (t := t) (by omega) hf h3)
      have HF := Lib.hid hf
      clear hf
      go_enter Tryz.func31, Tryz.ntmps31
      go_wp2_with (first | (go_at_call 47; ((with_reducible refine (terms_any 5000 (by omega) t ht A n cap _ (HV.out.ext (by repeat (first | exact Ext.refl _ | assumption | refine Ext.alloc ?_ _ | refine Ext.drew ?_ | refine Ext.drewN ?_ _ | refine Ext.trans ?_ (by assumption))))).mono ?_); rintro e w1 ⟨rfl, hq1⟩)) | (go_at_call 48; ((with_reducible refine (deep_any 5000 (by omega) t ht A n cap _ (HV.out.ext (by repeat (first | exact Ext.refl _ | assumption | refine Ext.alloc ?_ _ | refine Ext.drew ?_ | refine Ext.drewN ?_ _ | refine Ext.trans ?_ (by assumption))))).mono ?_); rintro e w4 ⟨rfl, hq4⟩)) | (go_at_call 49; ((with_reducible refine (rfine_any 5000 (by omega) t ht A n cap _ (HV.out.ext (by repeat (first | exact Ext.refl _ | assumption | refine Ext.alloc ?_ _ | refine Ext.drew ?_ | refine Ext.drewN ?_ _ | refine Ext.trans ?_ (by assumption))))).mono ?_); rintro e w2 ⟨rfl, hq2⟩; rw [HF.out])) | (go_at_call 50; ((with_reducible refine (long_any 5000 (by omega) t ht HF.out A n cap _ (HV.out.ext (by repeat (first | exact Ext.refl _ | assumption | refine Ext.alloc ?_ _ | refine Ext.drew ?_ | refine Ext.drewN ?_ _ | refine Ext.trans ?_ (by assumption))))).mono ?_); rintro e w3 ⟨rfl, hq3⟩)))
      go_ret
      exact ⟨by rw [HE.out]; rfl, by repeat (first | exact Ext.refl _ | assumption | refine Ext.alloc ?_ _ | refine Ext.drew ?_ | refine Ext.drewN ?_ _ | refine Ext.trans ?_ (by assumption))⟩
    · have HE := Lib.hid (tchk_0 (t := t) (by omega) hf h3)
      have HF := Lib.hid hf
      have hl : decide (200 < lenT t 0) = false := by simp; omega
      clear hf
      go_enter Tryz.func31, Tryz.ntmps31
      go_wp2_with (first | (go_at_call 47; ((with_reducible refine (terms_any 5000 (by omega) t ht A n cap _ (HV.out.ext (by repeat (first | exact Ext.refl _ | assumption | refine Ext.alloc ?_ _ | refine Ext.drew ?_ | refine Ext.drewN ?_ _ | refine Ext.trans ?_ (by assumption))))).mono ?_); rintro e w1 ⟨rfl, hq1⟩)) | (go_at_call 48; ((with_reducible refine (deep_any 5000 (by omega) t ht A n cap _ (HV.out.ext (by repeat (first | exact Ext.refl _ | assumption | refine Ext.alloc ?_ _ | refine Ext.drew ?_ | refine Ext.drewN ?_ _ | refine Ext.trans ?_ (by assumption))))).mono ?_); rintro e w4 ⟨rfl, hq4⟩)) | (go_at_call 49; ((with_reducible refine (rfine_any 5000 (by omega) t ht A n cap _ (HV.out.ext (by repeat (first | exact Ext.refl _ | assumption | refine Ext.alloc ?_ _ | refine Ext.drew ?_ | refine Ext.drewN ?_ _ | refine Ext.trans ?_ (by assumption))))).mono ?_); rintro e w2 ⟨rfl, hq2⟩; rw [HF.out])) | (go_at_call 50; ((with_reducible refine (long_any 5000 (by omega) t ht HF.out A n cap _ (HV.out.ext (by repeat (first | exact Ext.refl _ | assumption | refine Ext.alloc ?_ _ | refine Ext.drew ?_ | refine Ext.drewN ?_ _ | refine Ext.trans ?_ (by assumption))))).mono ?_); rintro e w3 ⟨rfl, hq3⟩)))
      go_ret
      exact ⟨by rw [HE.out]; rfl, by repeat (first | exact Ext.refl _ | assumption | refine Ext.alloc ?_ _ | refine Ext.drew ?_ | refine Ext.drewN ?_ _ | refine Ext.trans ?_ (by assumption))⟩
/-- what Expand returns -/
def texp_anyE (t : Tms) (w : World) (e : Ending) (w' : World) : Prop := ∃ (A : Option Addr) (n c : Nat), e = .returned (.tuple #[.slice A n c, .int .i64 (tchkE t)]) ∧ Ext w w' ∧ Vec shSt w' A n (if tchkE t = 0 then t.cells else []) ∧ (0 < n → ∀ b off, A = some ⟨b, off, none⟩ → w.heap.size ≤ b)
theorem texp_anyE_mk {t : Tms} {w : World} {e : Ending} {w' : World} {x : Int} {l : List St} (A : Option Addr) (n c : Nat) (hx : tchkE t = x) (hl : (if tchkE t = 0 then t.cells else []) = l) (h1 : e = .returned (.tuple #[.slice A n c, .int .i64 x])) (h2 : Ext w w') (h3 : Vec shSt w' A n l) (h4 : 0 < n → ∀ b off, A = some ⟨b, off, none⟩ → w.heap.size ≤ b) : texp_anyE t w e w' :=
  ⟨A, n, c, by rw [hx]; exact h1, h2, by rw [hl]; exact h3, h4⟩
set_option maxHeartbeats 1000000 in
theorem texp_any (t : Tms) (ht : t.size ≤ 5000) (A : Option Addr) (n cap : Nat) (w : World) (hv : Tv w A n t) :
    Calls Tryz.prog 24 #[.slice A n cap] w (texp_anyE t w) := by
  have HV := Lib.hid hv
  clear hv
  rcases tchk_vals t with h | h | h
  · have HE := Lib.hid h
    have HL := Lib.hid (show (if tchkE t = 0 then t.cells else []) = t.cells by rw [if_pos h])
    obtain ⟨_, _, g3, g4⟩ := tchk_e h
    have G3 := Lib.hid g3
    clear g3 h
    go_enter Tryz.func24, Tryz.ntmps24
    go_wp2_with (first | (go_at_call 21; ((with_reducible refine (tcheck_any t ht A n cap _ (HV.out.ext (by repeat (first | exact Ext.refl _ | assumption | refine Ext.alloc ?_ _ | refine Ext.drew ?_ | refine Ext.drewN ?_ _ | refine Ext.trans ?_ (by assumption))))).mono ?_); rintro e w1 ⟨rfl, hq1⟩; rw [HE.out])) | (go_at_call 42; ((with_reducible refine (expand_any 5000 (by omega) t ht G3.out g4 A n cap _ (HV.out.ext (by repeat (first | exact Ext.refl _ | assumption | refine Ext.alloc ?_ _ | refine Ext.drew ?_ | refine Ext.drewN ?_ _ | refine Ext.trans ?_ (by assumption))))).mono ?_); rintro e w2 ⟨A2, n2, c2, rfl, hq2, hv2, hb2⟩)))
    have HB2 := Lib.hid hb2
    have HV2 := Lib.hid hv2
    have hqq : Ext w w2 := by repeat (first | exact Ext.refl _ | assumption | refine Ext.alloc ?_ _ | refine Ext.drew ?_ | refine Ext.drewN ?_ _ | refine Ext.trans ?_ (by assumption))
    clear hb2 hv2
    go_wp2
    go_ret2
    exact texp_anyE_mk A2 n2 c2 HE.out HL.out rfl (by repeat (first | exact Ext.refl _ | assumption | refine Ext.alloc ?_ _ | refine Ext.drew ?_ | refine Ext.drewN ?_ _ | refine Ext.trans ?_ (by assumption))) HV2.out (fun h b off e => by have h1 := HB2.out h b off e; have h2 := Below.size (show Ext w _ from hq1); (try simp at h1); omega)
  all_goals
    have HE := Lib.hid h
    have HL := Lib.hid (show (if tchkE t = 0 then t.cells else []) = [] by rw [h]; rfl)
    clear h
    go_enter Tryz.func24, Tryz.ntmps24
    go_wp2_with (first | (go_at_call 21; ((with_reducible refine (tcheck_any t ht A n cap _ (HV.out.ext (by repeat (first | exact Ext.refl _ | assumption | refine Ext.alloc ?_ _ | refine Ext.drew ?_ | refine Ext.drewN ?_ _ | refine Ext.trans ?_ (by assumption))))).mono ?_); rintro e w1 ⟨rfl, hq1⟩; rw [HE.out])))
    go_ret2
    exact texp_anyE_mk none 0 0 HE.out HL.out rfl (by repeat (first | exact Ext.refl _ | assumption | refine Ext.alloc ?_ _ | refine Ext.drew ?_ | refine Ext.drewN ?_ _ | refine Ext.trans ?_ (by assumption))) (Vec.none_ _ _ _) (fun h => absurd h (by omega))
/-- what Expand returns -/
def trexp_anyE (t : Tms) (w : World) (e : Ending) (w' : World) : Prop := ∃ (A : Option Addr) (n c : Nat), e = .returned (.tuple #[.slice A n c, .int .i64 (tchkE t)]) ∧ Ext w w' ∧ Vec shSt w' A n (if tchkE t = 0 then t.cells else []) ∧ (0 < n → ∀ b off, A = some ⟨b, off, none⟩ → w.heap.size ≤ b)
theorem trexp_anyE_mk {t : Tms} {w : World} {e : Ending} {w' : World} {x : Int} {l : List St} (A : Option Addr) (n c : Nat) (hx : tchkE t = x) (hl : (if tchkE t = 0 then t.cells else []) = l) (h1 : e = .returned (.tuple #[.slice A n c, .int .i64 x])) (h2 : Ext w w') (h3 : Vec shSt w' A n l) (h4 : 0 < n → ∀ b off, A = some ⟨b, off, none⟩ → w.heap.size ≤ b) : trexp_anyE t w e w' :=
  ⟨A, n, c, by rw [hx]; exact h1, h2, by rw [hl]; exact h3, h4⟩
/-- the size that Size returns -/
def tszV (t : Tms) : Int := if tchkE t = 0 then szM t else 0
set_option maxHeartbeats 1000000 in
theorem tsize_any (t : Tms) (ht : t.size ≤ 5000) (A : Option Addr) (n cap : Nat) (w : World) (hv : Tv w A n t) :
    Calls Tryz.prog 26 #[.slice A n cap] w fun e w' => e = .returned (.tuple #[.int .i64 (tszV t), .int .i64 (tchkE t)]) ∧ Ext w w' := by
  have HV := Lib.hid hv
  clear hv
  rcases tchk_vals t with h | h | h
  · have HE := Lib.hid h
    have HL := Lib.hid (show tszV t = szM t by rw [tszV, if_pos h])
    clear h
    go_enter Tryz.func26, Tryz.ntmps26
    go_wp2_with (first | (go_at_call 21; ((with_reducible refine (tcheck_any t ht A n cap _ (HV.out.ext (by repeat (first | exact Ext.refl _ | assumption | refine Ext.alloc ?_ _ | refine Ext.drew ?_ | refine Ext.drewN ?_ _ | refine Ext.trans ?_ (by assumption))))).mono ?_); rintro e w1 ⟨rfl, hq1⟩; rw [HE.out])) | (go_at_call 37; ((with_reducible refine (size_any 5000 (by omega) t ht A n cap _ (HV.out.ext (by repeat (first | exact Ext.refl _ | assumption | refine Ext.alloc ?_ _ | refine Ext.drew ?_ | refine Ext.drewN ?_ _ | refine Ext.trans ?_ (by assumption))))).mono ?_); rintro e w2 ⟨rfl, hq2⟩)))
    go_ret2
    exact ⟨by rw [HE.out, HL.out]; rfl, by repeat (first | exact Ext.refl _ | assumption | refine Ext.alloc ?_ _ | refine Ext.drew ?_ | refine Ext.drewN ?_ _ | refine Ext.trans ?_ (by assumption))⟩
  all_goals
    have HE := Lib.hid h
    have HL := Lib.hid (show tszV t = 0 by rw [tszV, if_neg (by omega)])
    clear h
    go_enter Tryz.func26, Tryz.ntmps26
    go_wp2_with (first | (go_at_call 21; ((with_reducible refine (tcheck_any t ht A n cap _ (HV.out.ext (by repeat (first | exact Ext.refl _ | assumption | refine Ext.alloc ?_ _ | refine Ext.drew ?_ | refine Ext.drewN ?_ _ | refine Ext.trans ?_ (by assumption))))).mono ?_); rintro e w1 ⟨rfl, hq1⟩; rw [HE.out])))
    go_ret2
    exact ⟨by rw [HE.out, HL.out]; rfl, by repeat (first | exact Ext.refl _ | assumption | refine Ext.alloc ?_ _ | refine Ext.drew ?_ | refine Ext.drewN ?_ _ | refine Ext.trans ?_ (by assumption))⟩
end Go.Proofs.YtfbfkoeaihknoaaGreatDoor
/- The text of a stitch. -/
namespace Go.Proofs.YtfbfkoeaihknoaaGreatDoor
set_option maxRecDepth 100000
open Go.RowKit
theorem form_1 (w : World) : Calls Tryz.prog 58 #[.int .u8 1] w fun e w' => e = .returned (.tuple #[.agg #[.string ⟨#[]⟩, .int .i64 0, .int .i64 0, .int .i64 0, .int .i64 0, .bool true, .int .i64 1, .int .i64 1], .bool true]) ∧ Ext w w' := forms_both 1 (by omega) (by omega) w
theorem form_2 (w : World) : Calls Tryz.prog 58 #[.int .u8 2] w fun e w' => e = .returned (.tuple #[.agg #[.string ⟨#[]⟩, .int .i64 0, .int .i64 0, .int .i64 0, .int .i64 0, .bool false, .int .i64 0, .int .i64 1], .bool true]) ∧ Ext w w' := forms_both 2 (by omega) (by omega) w
theorem form_3 (w : World) : Calls Tryz.prog 58 #[.int .u8 3] w fun e w' => e = .returned (.tuple #[.agg #[.string ⟨#[102]⟩, .int .i64 2, .int .i64 4, .int .i64 0, .int .i64 0, .bool true, .int .i64 2, .int .i64 1], .bool true]) ∧ Ext w w' := forms_both 3 (by omega) (by omega) w
theorem form_4 (w : World) : Calls Tryz.prog 58 #[.int .u8 4] w fun e w' => e = .returned (.tuple #[.agg #[.string ⟨#[108]⟩, .int .i64 2, .int .i64 4, .int .i64 0, .int .i64 0, .bool true, .int .i64 2, .int .i64 1], .bool true]) ∧ Ext w w' := forms_both 4 (by omega) (by omega) w
theorem form_5 (w : World) : Calls Tryz.prog 58 #[.int .u8 5] w fun e w' => e = .returned (.tuple #[.agg #[.string ⟨#[109]⟩, .int .i64 2, .int .i64 4, .int .i64 0, .int .i64 0, .bool true, .int .i64 1, .int .i64 2], .bool true]) ∧ Ext w w' := forms_both 5 (by omega) (by omega) w
theorem form_6 (w : World) : Calls Tryz.prog 58 #[.int .u8 6] w fun e w' => e = .returned (.tuple #[.agg #[.string ⟨#[120]⟩, .int .i64 1, .int .i64 6, .int .i64 1, .int .i64 6, .bool true, .int .i64 3, .int .i64 3], .bool true]) ∧ Ext w w' := forms_both 6 (by omega) (by omega) w
theorem form_7 (w : World) : Calls Tryz.prog 58 #[.int .u8 7] w fun e w' => e = .returned (.tuple #[.agg #[.string ⟨#[121]⟩, .int .i64 1, .int .i64 6, .int .i64 1, .int .i64 6, .bool true, .int .i64 3, .int .i64 3], .bool true]) ∧ Ext w w' := forms_both 7 (by omega) (by omega) w
theorem form_8 (w : World) : Calls Tryz.prog 58 #[.int .u8 8] w fun e w' => e = .returned (.tuple #[.agg #[.string ⟨#[115]⟩, .int .i64 0, .int .i64 0, .int .i64 0, .int .i64 0, .bool true, .int .i64 1, .int .i64 1], .bool true]) ∧ Ext w w' := forms_both 8 (by omega) (by omega) w
theorem form_9 (w : World) : Calls Tryz.prog 58 #[.int .u8 9] w fun e w' => e = .returned (.tuple #[.agg #[.string ⟨#[]⟩, .int .i64 1, .int .i64 200, .int .i64 0, .int .i64 0, .bool false, .int .i64 0, .int .i64 2], .bool true]) ∧ Ext w w' := forms_both 9 (by omega) (by omega) w
theorem form_10 (w : World) : Calls Tryz.prog 58 #[.int .u8 10] w fun e w' => e = .returned (.tuple #[.agg #[.string ⟨#[111]⟩, .int .i64 1, .int .i64 200, .int .i64 0, .int .i64 0, .bool true, .int .i64 2, .int .i64 0], .bool true]) ∧ Ext w w' := forms_both 10 (by omega) (by omega) w
theorem ok_ab {s : St} (h : okSt s = true) : 0 ≤ s.a ∧ s.a ≤ 200 ∧ 0 ≤ s.b ∧ s.b ≤ 6 := by
  obtain ⟨hk, ha, hb, _⟩ := ok_e h
  have ha := inR_e ha
  have hb := inR_e hb
  rcases kind_cases hk with e | e | e | e | e | e | e | e | e | e <;> rw [e] at ha hb <;> simp [fa0, fa1, fb0, fb1] at ha hb <;> omega
set_option maxHeartbeats 2000000 in
theorem word_1 (p : Bool) (a b : Int) (w : World) :
    Calls Tryz.prog 77 #[.agg #[.int .u8 1, .bool p, .int .i64 a, .int .i64 b]] w fun e w' => e = .returned (.string ⟨(wordT ⟨1, p, a, b⟩).toArray⟩) ∧ Ext w w' := by
  cases p
  · go_enter Tryz.func77, Tryz.ntmps77
    go_wp2_with (first
      | (go_at_call 58; ((with_reducible refine (form_1 _).mono ?_); rintro e w1 ⟨rfl, hq1⟩; obtain ⟨hc1, hf1, hz1⟩ := hq1.facts)))
    exact bodyPost_ret (v := .string ((⟨#[107]⟩ : ByteArray) ++ (⟨#[]⟩ : ByteArray))) (by simp [results, Tryz.f77, go_sem]) rfl ⟨congrArg (fun x => Ending.returned (.string x)) (ByteArray.ext (by rw [show wordT ⟨1, false, a, b⟩ = [107] ++ [] ++ [] ++ [] from by rfl]; simp)), by repeat (first | exact Ext.refl _ | assumption | refine Ext.alloc ?_ _ | refine Ext.drew ?_ | refine Ext.drewN ?_ _ | refine Ext.trans ?_ (by assumption))⟩
  · go_enter Tryz.func77, Tryz.ntmps77
    go_wp2_with (first
      | (go_at_call 58; ((with_reducible refine (form_1 _).mono ?_); rintro e w1 ⟨rfl, hq1⟩; obtain ⟨hc1, hf1, hz1⟩ := hq1.facts)))
    exact bodyPost_ret (v := .string ((⟨#[112]⟩ : ByteArray) ++ (⟨#[]⟩ : ByteArray))) (by simp [results, Tryz.f77, go_sem]) rfl ⟨congrArg (fun x => Ending.returned (.string x)) (ByteArray.ext (by rw [show wordT ⟨1, true, a, b⟩ = [112] ++ [] ++ [] ++ [] from by rfl]; simp)), by repeat (first | exact Ext.refl _ | assumption | refine Ext.alloc ?_ _ | refine Ext.drew ?_ | refine Ext.drewN ?_ _ | refine Ext.trans ?_ (by assumption))⟩
set_option maxHeartbeats 2000000 in
theorem word_2 (p : Bool) (a b : Int) (w : World) :
    Calls Tryz.prog 77 #[.agg #[.int .u8 2, .bool p, .int .i64 a, .int .i64 b]] w fun e w' => e = .returned (.string ⟨(wordT ⟨2, p, a, b⟩).toArray⟩) ∧ Ext w w' := by
  go_enter Tryz.func77, Tryz.ntmps77
  go_wp2
  go_ret
  exact ⟨rfl, by repeat (first | exact Ext.refl _ | assumption | refine Ext.alloc ?_ _ | refine Ext.drew ?_ | refine Ext.drewN ?_ _ | refine Ext.trans ?_ (by assumption))⟩
set_option maxHeartbeats 2000000 in
theorem word_3 (p : Bool) (a b : Int) (h0 : 0 ≤ a) (h1 : a ≤ 200) (w : World) (hg : Glob w) :
    Calls Tryz.prog 77 #[.agg #[.int .u8 3, .bool p, .int .i64 a, .int .i64 b]] w fun e w' => e = .returned (.string ⟨(wordT ⟨3, p, a, b⟩).toArray⟩) ∧ Ext w w' := by
  have HG := Lib.hid hg
  clear hg
  have d1 := dec_len a.toNat
  cases p
  · go_enter Tryz.func77, Tryz.ntmps77
    go_wp2_with (first
      | (go_at_call 58; ((with_reducible refine (form_3 _).mono ?_); rintro e w1 ⟨rfl, hq1⟩; obtain ⟨hc1, hf1, hz1⟩ := hq1.facts))
      | (go_at_call 46; (first | ((with_reducible refine (itoa_any a h0 (by omega) _ (HG.out.ext (by repeat (first | exact Ext.refl _ | assumption | refine Ext.alloc ?_ _ | refine Ext.drew ?_ | refine Ext.drewN ?_ _ | refine Ext.trans ?_ (by assumption))))).mono ?_); rintro e w2 ⟨rfl, hq2⟩; obtain ⟨hc2, hf2, hz2⟩ := hq2.facts))))
    exact bodyPost_ret (v := .string ((⟨#[107]⟩ : ByteArray) ++ (⟨#[102]⟩ : ByteArray) ++ (⟨(decD a.toNat).toArray⟩ : ByteArray))) (by simp [results, Tryz.f77, go_sem]) rfl ⟨congrArg (fun x => Ending.returned (.string x)) (ByteArray.ext (by rw [show wordT ⟨3, false, a, b⟩ = [107] ++ [102] ++ decD a.toNat ++ [] from by rfl]; simp)), by repeat (first | exact Ext.refl _ | assumption | refine Ext.alloc ?_ _ | refine Ext.drew ?_ | refine Ext.drewN ?_ _ | refine Ext.trans ?_ (by assumption))⟩
  · go_enter Tryz.func77, Tryz.ntmps77
    go_wp2_with (first
      | (go_at_call 58; ((with_reducible refine (form_3 _).mono ?_); rintro e w1 ⟨rfl, hq1⟩; obtain ⟨hc1, hf1, hz1⟩ := hq1.facts))
      | (go_at_call 46; (first | ((with_reducible refine (itoa_any a h0 (by omega) _ (HG.out.ext (by repeat (first | exact Ext.refl _ | assumption | refine Ext.alloc ?_ _ | refine Ext.drew ?_ | refine Ext.drewN ?_ _ | refine Ext.trans ?_ (by assumption))))).mono ?_); rintro e w2 ⟨rfl, hq2⟩; obtain ⟨hc2, hf2, hz2⟩ := hq2.facts))))
    exact bodyPost_ret (v := .string ((⟨#[112]⟩ : ByteArray) ++ (⟨#[102]⟩ : ByteArray) ++ (⟨(decD a.toNat).toArray⟩ : ByteArray))) (by simp [results, Tryz.f77, go_sem]) rfl ⟨congrArg (fun x => Ending.returned (.string x)) (ByteArray.ext (by rw [show wordT ⟨3, true, a, b⟩ = [112] ++ [102] ++ decD a.toNat ++ [] from by rfl]; simp)), by repeat (first | exact Ext.refl _ | assumption | refine Ext.alloc ?_ _ | refine Ext.drew ?_ | refine Ext.drewN ?_ _ | refine Ext.trans ?_ (by assumption))⟩
set_option maxHeartbeats 2000000 in
theorem word_4 (p : Bool) (a b : Int) (h0 : 0 ≤ a) (h1 : a ≤ 200) (w : World) (hg : Glob w) :
    Calls Tryz.prog 77 #[.agg #[.int .u8 4, .bool p, .int .i64 a, .int .i64 b]] w fun e w' => e = .returned (.string ⟨(wordT ⟨4, p, a, b⟩).toArray⟩) ∧ Ext w w' := by
  have HG := Lib.hid hg
  clear hg
  have d1 := dec_len a.toNat
  cases p
  · go_enter Tryz.func77, Tryz.ntmps77
    go_wp2_with (first
      | (go_at_call 58; ((with_reducible refine (form_4 _).mono ?_); rintro e w1 ⟨rfl, hq1⟩; obtain ⟨hc1, hf1, hz1⟩ := hq1.facts))
      | (go_at_call 46; (first | ((with_reducible refine (itoa_any a h0 (by omega) _ (HG.out.ext (by repeat (first | exact Ext.refl _ | assumption | refine Ext.alloc ?_ _ | refine Ext.drew ?_ | refine Ext.drewN ?_ _ | refine Ext.trans ?_ (by assumption))))).mono ?_); rintro e w2 ⟨rfl, hq2⟩; obtain ⟨hc2, hf2, hz2⟩ := hq2.facts))))
    exact bodyPost_ret (v := .string ((⟨#[107]⟩ : ByteArray) ++ (⟨#[108]⟩ : ByteArray) ++ (⟨(decD a.toNat).toArray⟩ : ByteArray))) (by simp [results, Tryz.f77, go_sem]) rfl ⟨congrArg (fun x => Ending.returned (.string x)) (ByteArray.ext (by rw [show wordT ⟨4, false, a, b⟩ = [107] ++ [108] ++ decD a.toNat ++ [] from by rfl]; simp)), by repeat (first | exact Ext.refl _ | assumption | refine Ext.alloc ?_ _ | refine Ext.drew ?_ | refine Ext.drewN ?_ _ | refine Ext.trans ?_ (by assumption))⟩
  · go_enter Tryz.func77, Tryz.ntmps77
    go_wp2_with (first
      | (go_at_call 58; ((with_reducible refine (form_4 _).mono ?_); rintro e w1 ⟨rfl, hq1⟩; obtain ⟨hc1, hf1, hz1⟩ := hq1.facts))
      | (go_at_call 46; (first | ((with_reducible refine (itoa_any a h0 (by omega) _ (HG.out.ext (by repeat (first | exact Ext.refl _ | assumption | refine Ext.alloc ?_ _ | refine Ext.drew ?_ | refine Ext.drewN ?_ _ | refine Ext.trans ?_ (by assumption))))).mono ?_); rintro e w2 ⟨rfl, hq2⟩; obtain ⟨hc2, hf2, hz2⟩ := hq2.facts))))
    exact bodyPost_ret (v := .string ((⟨#[112]⟩ : ByteArray) ++ (⟨#[108]⟩ : ByteArray) ++ (⟨(decD a.toNat).toArray⟩ : ByteArray))) (by simp [results, Tryz.f77, go_sem]) rfl ⟨congrArg (fun x => Ending.returned (.string x)) (ByteArray.ext (by rw [show wordT ⟨4, true, a, b⟩ = [112] ++ [108] ++ decD a.toNat ++ [] from by rfl]; simp)), by repeat (first | exact Ext.refl _ | assumption | refine Ext.alloc ?_ _ | refine Ext.drew ?_ | refine Ext.drewN ?_ _ | refine Ext.trans ?_ (by assumption))⟩
set_option maxHeartbeats 2000000 in
theorem word_5 (p : Bool) (a b : Int) (h0 : 0 ≤ a) (h1 : a ≤ 200) (w : World) (hg : Glob w) :
    Calls Tryz.prog 77 #[.agg #[.int .u8 5, .bool p, .int .i64 a, .int .i64 b]] w fun e w' => e = .returned (.string ⟨(wordT ⟨5, p, a, b⟩).toArray⟩) ∧ Ext w w' := by
  have HG := Lib.hid hg
  clear hg
  have d1 := dec_len a.toNat
  cases p
  · go_enter Tryz.func77, Tryz.ntmps77
    go_wp2_with (first
      | (go_at_call 58; ((with_reducible refine (form_5 _).mono ?_); rintro e w1 ⟨rfl, hq1⟩; obtain ⟨hc1, hf1, hz1⟩ := hq1.facts))
      | (go_at_call 46; (first | ((with_reducible refine (itoa_any a h0 (by omega) _ (HG.out.ext (by repeat (first | exact Ext.refl _ | assumption | refine Ext.alloc ?_ _ | refine Ext.drew ?_ | refine Ext.drewN ?_ _ | refine Ext.trans ?_ (by assumption))))).mono ?_); rintro e w2 ⟨rfl, hq2⟩; obtain ⟨hc2, hf2, hz2⟩ := hq2.facts))))
    exact bodyPost_ret (v := .string ((⟨#[107]⟩ : ByteArray) ++ (⟨#[109]⟩ : ByteArray) ++ (⟨(decD a.toNat).toArray⟩ : ByteArray))) (by simp [results, Tryz.f77, go_sem]) rfl ⟨congrArg (fun x => Ending.returned (.string x)) (ByteArray.ext (by rw [show wordT ⟨5, false, a, b⟩ = [107] ++ [109] ++ decD a.toNat ++ [] from by rfl]; simp)), by repeat (first | exact Ext.refl _ | assumption | refine Ext.alloc ?_ _ | refine Ext.drew ?_ | refine Ext.drewN ?_ _ | refine Ext.trans ?_ (by assumption))⟩
  · go_enter Tryz.func77, Tryz.ntmps77
    go_wp2_with (first
      | (go_at_call 58; ((with_reducible refine (form_5 _).mono ?_); rintro e w1 ⟨rfl, hq1⟩; obtain ⟨hc1, hf1, hz1⟩ := hq1.facts))
      | (go_at_call 46; (first | ((with_reducible refine (itoa_any a h0 (by omega) _ (HG.out.ext (by repeat (first | exact Ext.refl _ | assumption | refine Ext.alloc ?_ _ | refine Ext.drew ?_ | refine Ext.drewN ?_ _ | refine Ext.trans ?_ (by assumption))))).mono ?_); rintro e w2 ⟨rfl, hq2⟩; obtain ⟨hc2, hf2, hz2⟩ := hq2.facts))))
    exact bodyPost_ret (v := .string ((⟨#[112]⟩ : ByteArray) ++ (⟨#[109]⟩ : ByteArray) ++ (⟨(decD a.toNat).toArray⟩ : ByteArray))) (by simp [results, Tryz.f77, go_sem]) rfl ⟨congrArg (fun x => Ending.returned (.string x)) (ByteArray.ext (by rw [show wordT ⟨5, true, a, b⟩ = [112] ++ [109] ++ decD a.toNat ++ [] from by rfl]; simp)), by repeat (first | exact Ext.refl _ | assumption | refine Ext.alloc ?_ _ | refine Ext.drew ?_ | refine Ext.drewN ?_ _ | refine Ext.trans ?_ (by assumption))⟩
set_option maxHeartbeats 2000000 in
theorem word_6 (p : Bool) (a b : Int) (h0 : 0 ≤ a) (h1 : a ≤ 200) (h2 : 0 ≤ b) (h3 : b ≤ 6) (w : World) (hg : Glob w) :
    Calls Tryz.prog 77 #[.agg #[.int .u8 6, .bool p, .int .i64 a, .int .i64 b]] w fun e w' => e = .returned (.string ⟨(wordT ⟨6, p, a, b⟩).toArray⟩) ∧ Ext w w' := by
  have HG := Lib.hid hg
  clear hg
  have d1 := dec_len a.toNat
  have d2 := dec_len b.toNat
  cases p
  · go_enter Tryz.func77, Tryz.ntmps77
    go_wp2_with (first
      | (go_at_call 58; ((with_reducible refine (form_6 _).mono ?_); rintro e w1 ⟨rfl, hq1⟩; obtain ⟨hc1, hf1, hz1⟩ := hq1.facts))
      | (go_at_call 46; (first | ((with_reducible refine (itoa_any a h0 (by omega) _ (HG.out.ext (by repeat (first | exact Ext.refl _ | assumption | refine Ext.alloc ?_ _ | refine Ext.drew ?_ | refine Ext.drewN ?_ _ | refine Ext.trans ?_ (by assumption))))).mono ?_); rintro e w2 ⟨rfl, hq2⟩; obtain ⟨hc2, hf2, hz2⟩ := hq2.facts; have hqb := Ext.trans hq1 (Ext.trans ((Ext.refl w1).alloc (.cells #[.string ⟨#[120]⟩, .int .i64 1, .int .i64 6, .int .i64 1, .int .i64 6, .bool true, .int .i64 3, .int .i64 3] 102)) hq2); obtain ⟨hcb, hfb, hzb⟩ := hqb.facts) | ((with_reducible refine (itoa_any b h2 (by omega) _ (HG.out.ext (by repeat (first | exact Ext.refl _ | assumption | refine Ext.alloc ?_ _ | refine Ext.drew ?_ | refine Ext.drewN ?_ _ | refine Ext.trans ?_ (by assumption))))).mono ?_); rintro e w3 ⟨rfl, hq3⟩))))
    exact bodyPost_ret (v := .string ((⟨#[107]⟩ : ByteArray) ++ (⟨#[120]⟩ : ByteArray) ++ (⟨(decD a.toNat).toArray⟩ : ByteArray) ++ ((⟨#[47]⟩ : ByteArray) ++ (⟨(decD b.toNat).toArray⟩ : ByteArray)))) (by simp [results, Tryz.f77, go_sem]) rfl ⟨congrArg (fun x => Ending.returned (.string x)) (ByteArray.ext (by rw [show wordT ⟨6, false, a, b⟩ = [107] ++ [120] ++ decD a.toNat ++ (47 :: decD b.toNat) from by rfl]; simp)), by repeat (first | exact Ext.refl _ | assumption | refine Ext.alloc ?_ _ | refine Ext.drew ?_ | refine Ext.drewN ?_ _ | refine Ext.trans ?_ (by assumption))⟩
  · go_enter Tryz.func77, Tryz.ntmps77
    go_wp2_with (first
      | (go_at_call 58; ((with_reducible refine (form_6 _).mono ?_); rintro e w1 ⟨rfl, hq1⟩; obtain ⟨hc1, hf1, hz1⟩ := hq1.facts))
      | (go_at_call 46; (first | ((with_reducible refine (itoa_any a h0 (by omega) _ (HG.out.ext (by repeat (first | exact Ext.refl _ | assumption | refine Ext.alloc ?_ _ | refine Ext.drew ?_ | refine Ext.drewN ?_ _ | refine Ext.trans ?_ (by assumption))))).mono ?_); rintro e w2 ⟨rfl, hq2⟩; obtain ⟨hc2, hf2, hz2⟩ := hq2.facts; have hqb := Ext.trans hq1 (Ext.trans ((Ext.refl w1).alloc (.cells #[.string ⟨#[120]⟩, .int .i64 1, .int .i64 6, .int .i64 1, .int .i64 6, .bool true, .int .i64 3, .int .i64 3] 102)) hq2); obtain ⟨hcb, hfb, hzb⟩ := hqb.facts) | ((with_reducible refine (itoa_any b h2 (by omega) _ (HG.out.ext (by repeat (first | exact Ext.refl _ | assumption | refine Ext.alloc ?_ _ | refine Ext.drew ?_ | refine Ext.drewN ?_ _ | refine Ext.trans ?_ (by assumption))))).mono ?_); rintro e w3 ⟨rfl, hq3⟩))))
    exact bodyPost_ret (v := .string ((⟨#[112]⟩ : ByteArray) ++ (⟨#[120]⟩ : ByteArray) ++ (⟨(decD a.toNat).toArray⟩ : ByteArray) ++ ((⟨#[47]⟩ : ByteArray) ++ (⟨(decD b.toNat).toArray⟩ : ByteArray)))) (by simp [results, Tryz.f77, go_sem]) rfl ⟨congrArg (fun x => Ending.returned (.string x)) (ByteArray.ext (by rw [show wordT ⟨6, true, a, b⟩ = [112] ++ [120] ++ decD a.toNat ++ (47 :: decD b.toNat) from by rfl]; simp)), by repeat (first | exact Ext.refl _ | assumption | refine Ext.alloc ?_ _ | refine Ext.drew ?_ | refine Ext.drewN ?_ _ | refine Ext.trans ?_ (by assumption))⟩
set_option maxHeartbeats 2000000 in
theorem word_7 (p : Bool) (a b : Int) (h0 : 0 ≤ a) (h1 : a ≤ 200) (h2 : 0 ≤ b) (h3 : b ≤ 6) (w : World) (hg : Glob w) :
    Calls Tryz.prog 77 #[.agg #[.int .u8 7, .bool p, .int .i64 a, .int .i64 b]] w fun e w' => e = .returned (.string ⟨(wordT ⟨7, p, a, b⟩).toArray⟩) ∧ Ext w w' := by
  have HG := Lib.hid hg
  clear hg
  have d1 := dec_len a.toNat
  have d2 := dec_len b.toNat
  cases p
  · go_enter Tryz.func77, Tryz.ntmps77
    go_wp2_with (first
      | (go_at_call 58; ((with_reducible refine (form_7 _).mono ?_); rintro e w1 ⟨rfl, hq1⟩; obtain ⟨hc1, hf1, hz1⟩ := hq1.facts))
      | (go_at_call 46; (first | ((with_reducible refine (itoa_any a h0 (by omega) _ (HG.out.ext (by repeat (first | exact Ext.refl _ | assumption | refine Ext.alloc ?_ _ | refine Ext.drew ?_ | refine Ext.drewN ?_ _ | refine Ext.trans ?_ (by assumption))))).mono ?_); rintro e w2 ⟨rfl, hq2⟩; obtain ⟨hc2, hf2, hz2⟩ := hq2.facts; have hqb := Ext.trans hq1 (Ext.trans ((Ext.refl w1).alloc (.cells #[.string ⟨#[121]⟩, .int .i64 1, .int .i64 6, .int .i64 1, .int .i64 6, .bool true, .int .i64 3, .int .i64 3] 102)) hq2); obtain ⟨hcb, hfb, hzb⟩ := hqb.facts) | ((with_reducible refine (itoa_any b h2 (by omega) _ (HG.out.ext (by repeat (first | exact Ext.refl _ | assumption | refine Ext.alloc ?_ _ | refine Ext.drew ?_ | refine Ext.drewN ?_ _ | refine Ext.trans ?_ (by assumption))))).mono ?_); rintro e w3 ⟨rfl, hq3⟩))))
    exact bodyPost_ret (v := .string ((⟨#[107]⟩ : ByteArray) ++ (⟨#[121]⟩ : ByteArray) ++ (⟨(decD a.toNat).toArray⟩ : ByteArray) ++ ((⟨#[47]⟩ : ByteArray) ++ (⟨(decD b.toNat).toArray⟩ : ByteArray)))) (by simp [results, Tryz.f77, go_sem]) rfl ⟨congrArg (fun x => Ending.returned (.string x)) (ByteArray.ext (by rw [show wordT ⟨7, false, a, b⟩ = [107] ++ [121] ++ decD a.toNat ++ (47 :: decD b.toNat) from by rfl]; simp)), by repeat (first | exact Ext.refl _ | assumption | refine Ext.alloc ?_ _ | refine Ext.drew ?_ | refine Ext.drewN ?_ _ | refine Ext.trans ?_ (by assumption))⟩
  · go_enter Tryz.func77, Tryz.ntmps77
    go_wp2_with (first
      | (go_at_call 58; ((with_reducible refine (form_7 _).mono ?_); rintro e w1 ⟨rfl, hq1⟩; obtain ⟨hc1, hf1, hz1⟩ := hq1.facts))
      | (go_at_call 46; (first | ((with_reducible refine (itoa_any a h0 (by omega) _ (HG.out.ext (by repeat (first | exact Ext.refl _ | assumption | refine Ext.alloc ?_ _ | refine Ext.drew ?_ | refine Ext.drewN ?_ _ | refine Ext.trans ?_ (by assumption))))).mono ?_); rintro e w2 ⟨rfl, hq2⟩; obtain ⟨hc2, hf2, hz2⟩ := hq2.facts; have hqb := Ext.trans hq1 (Ext.trans ((Ext.refl w1).alloc (.cells #[.string ⟨#[121]⟩, .int .i64 1, .int .i64 6, .int .i64 1, .int .i64 6, .bool true, .int .i64 3, .int .i64 3] 102)) hq2); obtain ⟨hcb, hfb, hzb⟩ := hqb.facts) | ((with_reducible refine (itoa_any b h2 (by omega) _ (HG.out.ext (by repeat (first | exact Ext.refl _ | assumption | refine Ext.alloc ?_ _ | refine Ext.drew ?_ | refine Ext.drewN ?_ _ | refine Ext.trans ?_ (by assumption))))).mono ?_); rintro e w3 ⟨rfl, hq3⟩))))
    exact bodyPost_ret (v := .string ((⟨#[112]⟩ : ByteArray) ++ (⟨#[121]⟩ : ByteArray) ++ (⟨(decD a.toNat).toArray⟩ : ByteArray) ++ ((⟨#[47]⟩ : ByteArray) ++ (⟨(decD b.toNat).toArray⟩ : ByteArray)))) (by simp [results, Tryz.f77, go_sem]) rfl ⟨congrArg (fun x => Ending.returned (.string x)) (ByteArray.ext (by rw [show wordT ⟨7, true, a, b⟩ = [112] ++ [121] ++ decD a.toNat ++ (47 :: decD b.toNat) from by rfl]; simp)), by repeat (first | exact Ext.refl _ | assumption | refine Ext.alloc ?_ _ | refine Ext.drew ?_ | refine Ext.drewN ?_ _ | refine Ext.trans ?_ (by assumption))⟩
set_option maxHeartbeats 2000000 in
theorem word_8 (p : Bool) (a b : Int) (w : World) :
    Calls Tryz.prog 77 #[.agg #[.int .u8 8, .bool p, .int .i64 a, .int .i64 b]] w fun e w' => e = .returned (.string ⟨(wordT ⟨8, p, a, b⟩).toArray⟩) ∧ Ext w w' := by
  cases p
  · go_enter Tryz.func77, Tryz.ntmps77
    go_wp2_with (first
      | (go_at_call 58; ((with_reducible refine (form_8 _).mono ?_); rintro e w1 ⟨rfl, hq1⟩; obtain ⟨hc1, hf1, hz1⟩ := hq1.facts)))
    exact bodyPost_ret (v := .string ((⟨#[107]⟩ : ByteArray) ++ (⟨#[115]⟩ : ByteArray))) (by simp [results, Tryz.f77, go_sem]) rfl ⟨congrArg (fun x => Ending.returned (.string x)) (ByteArray.ext (by rw [show wordT ⟨8, false, a, b⟩ = [107] ++ [115] ++ [] ++ [] from by rfl]; simp)), by repeat (first | exact Ext.refl _ | assumption | refine Ext.alloc ?_ _ | refine Ext.drew ?_ | refine Ext.drewN ?_ _ | refine Ext.trans ?_ (by assumption))⟩
  · go_enter Tryz.func77, Tryz.ntmps77
    go_wp2_with (first
      | (go_at_call 58; ((with_reducible refine (form_8 _).mono ?_); rintro e w1 ⟨rfl, hq1⟩; obtain ⟨hc1, hf1, hz1⟩ := hq1.facts)))
    exact bodyPost_ret (v := .string ((⟨#[112]⟩ : ByteArray) ++ (⟨#[115]⟩ : ByteArray))) (by simp [results, Tryz.f77, go_sem]) rfl ⟨congrArg (fun x => Ending.returned (.string x)) (ByteArray.ext (by rw [show wordT ⟨8, true, a, b⟩ = [112] ++ [115] ++ [] ++ [] from by rfl]; simp)), by repeat (first | exact Ext.refl _ | assumption | refine Ext.alloc ?_ _ | refine Ext.drew ?_ | refine Ext.drewN ?_ _ | refine Ext.trans ?_ (by assumption))⟩
set_option maxHeartbeats 2000000 in
theorem word_9 (p : Bool) (a b : Int) (h0 : 0 ≤ a) (h1 : a ≤ 200) (w : World) (hg : Glob w) :
    Calls Tryz.prog 77 #[.agg #[.int .u8 9, .bool p, .int .i64 a, .int .i64 b]] w fun e w' => e = .returned (.string ⟨(wordT ⟨9, p, a, b⟩).toArray⟩) ∧ Ext w w' := by
  have HG := Lib.hid hg
  clear hg
  have d1 := dec_len a.toNat
  go_enter Tryz.func77, Tryz.ntmps77
  go_wp2_with (first
      | (go_at_call 46; (first | ((with_reducible refine (itoa_any a h0 (by omega) _ (HG.out.ext (by repeat (first | exact Ext.refl _ | assumption | refine Ext.alloc ?_ _ | refine Ext.drew ?_ | refine Ext.drewN ?_ _ | refine Ext.trans ?_ (by assumption))))).mono ?_); rintro e w2 ⟨rfl, hq2⟩; obtain ⟨hc2, hf2, hz2⟩ := hq2.facts))))
  go_ret
  exact ⟨congrArg (fun x => Ending.returned (.string x)) (ByteArray.ext (by rw [show wordT ⟨9, p, a, b⟩ = [111, 110] ++ decD a.toNat from rfl]; simp)), by repeat (first | exact Ext.refl _ | assumption | refine Ext.alloc ?_ _ | refine Ext.drew ?_ | refine Ext.drewN ?_ _ | refine Ext.trans ?_ (by assumption))⟩
set_option maxHeartbeats 2000000 in
theorem word_10 (p : Bool) (a b : Int) (h0 : 0 ≤ a) (h1 : a ≤ 200) (w : World) (hg : Glob w) :
    Calls Tryz.prog 77 #[.agg #[.int .u8 10, .bool p, .int .i64 a, .int .i64 b]] w fun e w' => e = .returned (.string ⟨(wordT ⟨10, p, a, b⟩).toArray⟩) ∧ Ext w w' := by
  have HG := Lib.hid hg
  clear hg
  have d1 := dec_len a.toNat
  cases p
  · go_enter Tryz.func77, Tryz.ntmps77
    go_wp2_with (first
      | (go_at_call 58; ((with_reducible refine (form_10 _).mono ?_); rintro e w1 ⟨rfl, hq1⟩; obtain ⟨hc1, hf1, hz1⟩ := hq1.facts))
      | (go_at_call 46; (first | ((with_reducible refine (itoa_any a h0 (by omega) _ (HG.out.ext (by repeat (first | exact Ext.refl _ | assumption | refine Ext.alloc ?_ _ | refine Ext.drew ?_ | refine Ext.drewN ?_ _ | refine Ext.trans ?_ (by assumption))))).mono ?_); rintro e w2 ⟨rfl, hq2⟩; obtain ⟨hc2, hf2, hz2⟩ := hq2.facts))))
    exact bodyPost_ret (v := .string ((⟨#[107]⟩ : ByteArray) ++ (⟨#[111]⟩ : ByteArray) ++ (⟨(decD a.toNat).toArray⟩ : ByteArray))) (by simp [results, Tryz.f77, go_sem]) rfl ⟨congrArg (fun x => Ending.returned (.string x)) (ByteArray.ext (by rw [show wordT ⟨10, false, a, b⟩ = [107] ++ [111] ++ decD a.toNat ++ [] from by rfl]; simp)), by repeat (first | exact Ext.refl _ | assumption | refine Ext.alloc ?_ _ | refine Ext.drew ?_ | refine Ext.drewN ?_ _ | refine Ext.trans ?_ (by assumption))⟩
  · go_enter Tryz.func77, Tryz.ntmps77
    go_wp2_with (first
      | (go_at_call 58; ((with_reducible refine (form_10 _).mono ?_); rintro e w1 ⟨rfl, hq1⟩; obtain ⟨hc1, hf1, hz1⟩ := hq1.facts))
      | (go_at_call 46; (first | ((with_reducible refine (itoa_any a h0 (by omega) _ (HG.out.ext (by repeat (first | exact Ext.refl _ | assumption | refine Ext.alloc ?_ _ | refine Ext.drew ?_ | refine Ext.drewN ?_ _ | refine Ext.trans ?_ (by assumption))))).mono ?_); rintro e w2 ⟨rfl, hq2⟩; obtain ⟨hc2, hf2, hz2⟩ := hq2.facts))))
    exact bodyPost_ret (v := .string ((⟨#[112]⟩ : ByteArray) ++ (⟨#[111]⟩ : ByteArray) ++ (⟨(decD a.toNat).toArray⟩ : ByteArray))) (by simp [results, Tryz.f77, go_sem]) rfl ⟨congrArg (fun x => Ending.returned (.string x)) (ByteArray.ext (by rw [show wordT ⟨10, true, a, b⟩ = [112] ++ [111] ++ decD a.toNat ++ [] from by rfl]; simp)), by repeat (first | exact Ext.refl _ | assumption | refine Ext.alloc ?_ _ | refine Ext.drew ?_ | refine Ext.drewN ?_ _ | refine Ext.trans ?_ (by assumption))⟩
theorem word_any (s : St) (h : okSt s = true) (w : World) (hg : Glob w) :
    Calls Tryz.prog 77 #[.agg #[.int .u8 s.k, .bool s.p, .int .i64 s.a, .int .i64 s.b]] w fun e w' => e = .returned (.string ⟨(wordT s).toArray⟩) ∧ Ext w w' := by
  obtain ⟨h0, h1, h2, h3⟩ := ok_ab h
  obtain ⟨k, p, a, b⟩ := s
  have hk := ok_kind h
  simp only at h0 h1 h2 h3 hk ⊢
  rcases kind_cases hk with e | e | e | e | e | e | e | e | e | e <;> subst e
  · exact word_1 p a b w
  · exact word_2 p a b w
  · exact word_3 p a b h0 h1 w hg
  · exact word_4 p a b h0 h1 w hg
  · exact word_5 p a b h0 h1 w hg
  · exact word_6 p a b h0 h1 h2 h3 w hg
  · exact word_7 p a b h0 h1 h2 h3 w hg
  · exact word_8 p a b w
  · exact word_9 p a b h0 h1 w hg
  · exact word_10 p a b h0 h1 w hg
end Go.Proofs.YtfbfkoeaihknoaaGreatDoor
