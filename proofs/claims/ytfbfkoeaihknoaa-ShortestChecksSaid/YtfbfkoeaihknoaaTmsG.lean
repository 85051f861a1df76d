/- The walks of expand and Cells of terms. -/
import Derived.Test.YtfbfkoeaihknoaaTmsF
namespace Go.Proofs.Ytfbfkoeaihknoaa
open Go.RowKit Go.ChangeShapes Go.WideShapes Go.Joins
/-- the cells that a term repeats -/
def ownC (c : St) (g : Tms) : List St := if g.cnt = 0 then [c] else g.cells
theorem own_one (c : St) : ownC c .nil = [c] := rfl
theorem own_grp (c : St) {g : Tms} (h : 0 < g.cnt) : ownC c g = g.cells := by rw [ownC, if_neg (by omega)]
theorem cells_own (N : Int) (c : St) (g r : Tms) : (Tms.cons N c g r).cells = rep N.toNat (ownC c g) ++ r.cells := by
  by_cases h : g = .nil
  · subst h
    rw [cells_one, own_one, rep_one]
  · rw [cells_grp _ _ _ _ h, ownC, if_neg (fun e => h (cnt_nil e))]
/-- a call has returned these stitches, made by itself -/
def StsR (l : List St) (w : World) (e : Ending) (w' : World) : Prop := ∃ (A : Option Addr) (n c : Nat), e = .returned (.slice A n c) ∧ Ext w w' ∧ Vec shSt w' A n l ∧ (0 < n → ∀ b off, A = some ⟨b, off, none⟩ → w.heap.size ≤ b)
/-- a list that lies elsewhere than in a block -/
def VecX (w : World) (X : Option Nat) (A : Option Addr) (n : Nat) (l : List St) : Prop := Vec shSt w A n l ∧ (0 < n → ∀ b off, A = some ⟨b, off, none⟩ → some b ≠ X)
theorem VecX.step {w w' : World} {X X' : Option Nat} {A : Option Addr} {n : Nat} {l : List St} (h : VecX w X A n l) (hb : w.grownBy w' X) (hx : X' = X ∨ X' = some w.heap.size) : VecX w' X' A n l := by
  refine ⟨⟨h.1.1, fun hn => ?_⟩, fun hn b off e => ?_⟩
  · obtain ⟨b, off, e, hlt, hc⟩ := h.1.2 hn
    exact ⟨b, off, e, Nat.lt_of_lt_of_le hlt (But.size hb), fun k x hx i u hu => (But.cell (p := ⟨b, off + (k * shSt.size + i), none⟩) hb hlt (h.2 hn b off e)).trans (hc k x hx i u hu)⟩
  · obtain ⟨b', off', e', hlt, _⟩ := h.1.2 hn
    rw [e] at e'
    cases e'
    rcases hx with hx | hx
    · rw [hx]; exact h.2 hn b off e
    · rw [hx]; intro e2; cases e2; omega
theorem VecX.ext {w w' : World} {X : Option Nat} {A : Option Addr} {n : Nat} {l : List St} (h : VecX w X A n l) (hb : Ext w w') : VecX w' X A n l := ⟨h.1.ext hb, h.2⟩
theorem OwnV.blk {α : Type} {S : Shp α} {w : World} {B : Nat} {e : TypeId} {v : Value} {k : Nat} {L : List α} (h : OwnV S w B e v k L) : ∀ b, v.ownBlock = some b → B ≤ b ∧ b < w.heap.size := own_blk h
theorem own_vecB {α : Type} {S : Shp α} {w : World} {B k : Nat} {e : TypeId} {v : Value} {L : List α} (h : OwnV S w B e v k L) : ∃ A c, v = .slice A k c ∧ Vec S w A k L ∧ (0 < k → ∀ b off, A = some ⟨b, off, none⟩ → B ≤ b) := by
  obtain ⟨A, c, rfl, hv⟩ := own_vec h
  refine ⟨A, c, rfl, hv, fun hk b off e => ?_⟩
  subst e
  exact (OwnV.blk h b (by simp [Value.ownBlock])).1
section
variable {α : Type} {S : Shp α} {P : Program} {ops : Array Oper} {rest : List Oper} {o : Oper} {a : Act} {Q : Exit → Act → World → Prop} {w wx : World}
/-- a list appended to what the call has put together; where it lies then -/
theorem wpList_append_vecsB (T e : TypeId) (z : Value) (bytes : Nat) {s x : Operand} {v : Value} {k m c : Nat} {A : Option Addr} {L xs : List α}
    (hgd : o.guard = none) (ho : o.op = .call { callee := .builtin .append, args := #[s, x], argTypes := #[T, T] })
    (ht : P.underlying T = some (.slice e)) (hinfo : (P.info? e).map (fun i => (i.zero, i.size, i.bytes)) = some (some z, S.size, bytes)) (hzs : z.cells.size = S.size) (hby : bytes ≤ 1000)
    (hs : a.eval s = v) (hx : a.eval x = .slice A m c) (hown : OwnV S wx w.heap.size e v k L) (hext : Ext w wx) (hxs : Vec S wx A m xs) (hk : k + m ≤ 1000000)
    (h : ∀ v' w1, OwnV S w1 w.heap.size e v' (k + m) (L ++ xs) → Hid (Ext w w1) → Hid (wx.grownBy w1 v.ownBlock ∧ (v'.ownBlock = v.ownBlock ∨ v'.ownBlock = some wx.heap.size)) → wpList P ops Q rest (a.put o.dst v') w1) : wpList P ops Q (o :: rest) a wx :=
  wpList_plain hgd fun _ hK => wp_append_cells (news := xs.flatMap S.cells) T e z S.size bytes ho ht hinfo hzs S.pos hby hs hx hown hext (by rw [flat_len, hxs.1])
    (fun hm => by
      obtain ⟨b, off, hA, _, _⟩ := hxs.2 hm
      subst hA
      exact ⟨_, rfl, hxs.cells_at⟩) (fun u hu => by obtain ⟨y, _, hy⟩ := List.mem_flatMap.1 hu; exact S.one y u hy) hk
    fun v' w' h2 h3 h4 h5 => hK _ _ (h v' w' (by unfold OwnV; rw [List.flatMap_append]; exact h2) h3 ⟨h4, h5⟩)
end
set_option maxHeartbeats 4000000 in
theorem expand_any : ∀ (M : Nat), M ≤ 5000 → ∀ (t : Tms), t.size ≤ M → fineT t = true → t.cells.length ≤ 200 → ∀ (A : Option Addr) (n cap : Nat) (w : World), Tv w A n t →
    Calls Try.prog 23 #[.slice A n cap] w (StsR t.cells w) := by
  intro M
  induction M using Nat.strongRecOn with
  | ind M ih =>
    intro hM t ht hf hcl A n cap w hv
    have HI := Lib.hid ih
    have HV := Lib.hid hv
    have hnm : n ≤ 5000 := by have h1 := hv.1; have h2 := cnt_size t; omega
    have HF := Lib.hid hf
    clear ih hv hf
    go_enter Try.func23, Try.ntmps23
    go_wp2_with fail
    go_loopw [3, 9] (fun u i wr => ∃ (V : Value) (k : Nat) (pre : List St) (rest : Tms), V = u ∧ i = .int .i64 k ∧ rest.cnt + k = n ∧ rest.size ≤ M ∧ pre.length + rest.cells.length ≤ 200 ∧
      Hid (OwnV shSt wr w.heap.size 45 V pre.length pre ∧ pre ++ rest.cells = t.cells ∧ fineT rest = true ∧ Ext w wr ∧ (0 < rest.cnt → ∃ b off, A = some ⟨b, off, none⟩ ∧ b < w.heap.size ∧ TAt w rest b (off + k * 6)))) (fun _ i _ => n - (intOf i).toNat)
    case atStart =>
      refine ⟨_, 0, [], t, rfl, rfl, by have := HV.out.1; omega, ht, by simpa using hcl, Lib.hid ⟨OwnV.nil _ _ _ _, rfl, HF.out, Ext.refl _, fun h => ?_⟩⟩
      obtain ⟨h1, h2, h3⟩ := HV.out
      obtain ⟨b, off, e, hb, hc⟩ := h3 (by omega)
      exact ⟨b, off, e, hb, by simpa using hc⟩
    case round =>
      obtain ⟨V, k, pre, rest, rfl, rfl, hcnt, hrs, hpl, HH⟩ := hrel
      by_cases hlt : 0 < rest.cnt
      · obtain ⟨N, c, g, r, rfl⟩ := cnt_cons hlt
        obtain ⟨b, off, rfl, hb1, hc⟩ := HH.out.2.2.2.2 hlt
        obtain ⟨A', n', cap', d0, d1, d2, d3, d4, d5, hkk, hg, hr⟩ := hc.head
        have hxr := HH.out.2.2.2.1
        obtain ⟨⟨hN0, hN1⟩, hfg, hfr⟩ := fine_cons HH.out.2.2.1
        have HFR := Lib.hid hfr
        simp only [Tms.cnt, Tms.size] at hcnt hrs
        have hkn : k < n := by omega
        have hz : b < wr.heap.size := Nat.lt_of_lt_of_le hb1 (Below.size hxr)
        have HCS := Lib.hid (cells_own N c g r)
        have hcb : (rep N.toNat (ownC c g)).length + r.cells.length = (Tms.cons N c g r).cells.length := by rw [HCS.out, List.length_append]
        rw [rep_len] at hcb
        have hgcl : 0 < g.cnt → g.cells.length ≤ 200 := fun h => by
          rw [own_grp c h] at hcb
          have : 1 * g.cells.length ≤ N.toNat * g.cells.length := Nat.mul_le_mul_right _ (by omega)
          omega
        have hcall := fun (h0 : 0 < g.cnt) (w' : World) (h : Ext w w') => HI.out (M - 1) (by omega) (by omega) g (by omega) hfg (hgcl h0) A' n' cap' w' (hg.ext h)
        have HC := Lib.hid hcall
        have hgn := Lib.hid hg.1
        have q0 : (0 : Int) ≤ (k : Int) := by omega
        have q1 : (k : Int) < (n : Int) := by omega
        have HE0 := Lib.hid hxr
        have HCB := Lib.hid hcb
        have HKK := Lib.hid hkk
        obtain ⟨ck, cp, ca, cb⟩ := c
        simp only at d1 d2 d3 d4
        obtain ⟨wq, rfl⟩ : ∃ wq : World, wq = wr := ⟨_, rfl⟩
        have fwd : ∀ (o : Nat) (u : Value), w.cell? ⟨b, o, none⟩ = some u → wq.cell? ⟨b, o, none⟩ = some u := fun o u h => (Below.cell (p := ⟨b, o, none⟩) hxr hb1).trans h
        have c0 := fwd _ _ d0
        have c1 := fwd _ _ d1
        have c2 := fwd _ _ d2
        have c3 := fwd _ _ d3
        have c4 := fwd _ _ d4
        have c5 := fwd _ _ d5
        have HBL := Lib.hid (show ∀ b, wq.heap.size ≤ b → some b ≠ V.ownBlock from fun b hb e => by have := (OwnV.blk HH.out.1 b e.symm).2; omega)
        clear hcall hc hxr hfr hfg hgcl hcb hkk fwd
        by_cases hn' : 0 < n'
        · have HOW := Lib.hid (own_grp ⟨ck, cp, ca, cb⟩ (g := g) (by have := hgn.out; omega))
          go_wp2_with (go_at_call 23; ((with_reducible refine (HC.out (by have := hgn.out; omega) _ (HE0.out.trans (by repeat (first | exact Ext.refl _ | assumption | refine Ext.alloc ?_ _ | refine Ext.drew ?_ | refine Ext.drewN ?_ _ | refine Ext.trans ?_ (by assumption))))).mono ?_); rintro e w1 ⟨A1, m1, cap1, rfl, hq1, hv1, hbl1⟩; obtain ⟨hf1, hf2, hf3⟩ := hq1.facts))
          have HXW := Lib.hid (show Ext wq w1 by repeat (first | exact Ext.refl _ | assumption | refine Ext.alloc ?_ _ | refine Ext.drew ?_ | refine Ext.drewN ?_ _ | refine Ext.trans ?_ (by assumption)))
          have HOV := Lib.hid (show VecX w1 V.ownBlock A1 m1 g.cells from ⟨hv1, fun h b off e => HBL.out b (by have := hbl1 h b off e; simp at this; omega)⟩)
          clear hv1 hq1 hbl1
          have HL1 := Lib.hid (HOV.out.1.len)
          have HB := Lib.hid (show pre.length + N.toNat * m1 + r.cells.length ≤ 200 by have h1 := HCB.out; rw [HOW.out, HL1.out] at h1; omega)
          have HCS2 := Lib.hid (show (Tms.cons N ⟨ck, cp, ca, cb⟩ g r).cells = rep N.toNat g.cells ++ r.cells by rw [HCS.out, HOW.out])
          clear hpl
          go_loopw [3, 25] (fun u j wi => ∃ (V : Value) (q : Nat), V = u ∧ q ≤ N.toNat ∧ j = .int .i64 q ∧ Hid (OwnV shSt wi w.heap.size 45 V (pre.length + q * m1) (pre ++ rep q g.cells)) ∧ Hid (VecX wi V.ownBlock A1 m1 g.cells ∧ Ext w wi)) (fun _ j _ => N.toNat - (intOf j).toNat)
          case atStart => exact ⟨_, 0, rfl, by omega, rfl, Lib.hid (by have := (HH.out.1).ext HXW.out; simpa [rep] using this), Lib.hid ⟨HOV.out, HE0.out.trans HXW.out⟩⟩
          case round =>
            obtain ⟨V2, q, rfl, hq, rfl, hown, hexi⟩ := hrel
            have hx0 := hexi.out.2
            obtain ⟨hz1, hz2, hz3⟩ := hx0.facts
            by_cases hlq : q < N.toNat
            · have qN : (q : Int) < N := by omega
              have HKB := Lib.hid (show pre.length + q * m1 + m1 ≤ 1000000 by
                have h1 : (q + 1) * m1 ≤ N.toNat * m1 := Nat.mul_le_mul_right _ (by omega)
                rw [Nat.add_mul, Nat.one_mul] at h1
                have := HB.out
                omega)
              go_wp2_with (at_builtin; refine wpList_append_vecsB (S := shSt) (w := w) 22 45 (.agg #[.int .u8 0, .bool false, .int .i64 0, .int .i64 0]) 24 (by rfl) (by rfl) Try.underlying22 info_st (by rfl) (by omega) (by rfl) (by rfl) hown.out hx0 hexi.out.1.1 HKB.out ?_; intro v' w3 hown3 hext3 hgr3)
              go_roundw
              case rel =>
                refine ⟨v', q + 1, rfl, by omega, by go_num, Lib.hid ?_, Lib.hid ⟨hexi.out.1.step hgr3.out.1 hgr3.out.2, hext3.out⟩⟩
                have e1 : pre.length + (q + 1) * m1 = pre.length + q * m1 + m1 := by rw [Nat.add_mul, Nat.one_mul]; omega
                rw [e1, rep_snoc, ← List.append_assoc]
                exact hown3
              case measure => simp [intOf]; omega
            · obtain rfl : q = N.toNat := by omega
              have qN : ¬ ((N.toNat : Int) < N) := by omega
              go_wp2
              go_roundw
              case rel =>
                obtain ⟨e2, e3, e4, e5, -⟩ := HH.out
                refine ⟨V2, k + 1, pre ++ rep N.toNat g.cells, r, rfl, by go_num, by omega, by omega, ?_, Lib.hid ⟨?_, ?_, HFR.out, hx0, fun h => ?_⟩⟩
                · rw [List.length_append, rep_len, HL1.out]; have := HB.out; omega
                · rw [List.length_append, rep_len, HL1.out]
                  exact hown.out
                · rw [← e3, HCS2.out, List.append_assoc]
                · refine ⟨b, off, rfl, hb1, ?_⟩
                  rw [show off + (k + 1) * 6 = off + k * 6 + 6 by omega]
                  exact hr
              case measure => simp [intOf]; omega
        · obtain rfl := cnt_nil (t := g) (by have := hgn.out; omega)
          obtain rfl : n' = 0 := by omega
          have HOW := Lib.hid (own_one ⟨ck, cp, ca, cb⟩)
          go_wp2_with fail
          have HXW := Lib.hid (show Ext wq ((wq.alloc (.cells #[.int .i64 N, .int .u8 ck, .bool cp, .int .i64 ca, .int .i64 cb, .slice A' 0 cap'] 60)).alloc (.cells #[.int .u8 ck, .bool cp, .int .i64 ca, .int .i64 cb] 45)) by repeat (first | exact Ext.refl _ | assumption | refine Ext.alloc ?_ _ | refine Ext.drew ?_ | refine Ext.drewN ?_ _ | refine Ext.trans ?_ (by assumption)))
          have HOV := Lib.hid (show VecX ((wq.alloc (.cells #[.int .i64 N, .int .u8 ck, .bool cp, .int .i64 ca, .int .i64 cb, .slice A' 0 cap'] 60)).alloc (.cells #[.int .u8 ck, .bool cp, .int .i64 ca, .int .i64 cb] 45)) V.ownBlock (some ⟨(wq.heap.size + 1), 0, none⟩) 1 [⟨ck, cp, ca, cb⟩] from ⟨Vec.lit2 (by simp) rfl rfl, fun h b off e => HBL.out b (by cases e; omega)⟩)
          have HL1 := Lib.hid (HOV.out.1.len)
          have HB := Lib.hid (show pre.length + N.toNat * 1 + r.cells.length ≤ 200 by have h1 := HCB.out; rw [HOW.out, HL1.out] at h1; omega)
          have HCS2 := Lib.hid (show (Tms.cons N ⟨ck, cp, ca, cb⟩ .nil r).cells = rep N.toNat [⟨ck, cp, ca, cb⟩] ++ r.cells by rw [HCS.out, HOW.out])
          clear hpl
          go_loopw [3, 25] (fun u j wi => ∃ (V : Value) (q : Nat), V = u ∧ q ≤ N.toNat ∧ j = .int .i64 q ∧ Hid (OwnV shSt wi w.heap.size 45 V (pre.length + q * 1) (pre ++ rep q [⟨ck, cp, ca, cb⟩])) ∧ Hid (VecX wi V.ownBlock (some ⟨(wq.heap.size + 1), 0, none⟩) 1 [⟨ck, cp, ca, cb⟩] ∧ Ext w wi)) (fun _ j _ => N.toNat - (intOf j).toNat)
          case atStart => exact ⟨_, 0, rfl, by omega, rfl, Lib.hid (by have := (HH.out.1).ext HXW.out; simpa [rep] using this), Lib.hid ⟨HOV.out, HE0.out.trans HXW.out⟩⟩
          case round =>
            obtain ⟨V2, q, rfl, hq, rfl, hown, hexi⟩ := hrel
            have hx0 := hexi.out.2
            obtain ⟨hz1, hz2, hz3⟩ := hx0.facts
            by_cases hlq : q < N.toNat
            · have qN : (q : Int) < N := by omega
              have HKB := Lib.hid (show pre.length + q * 1 + 1 ≤ 1000000 by
                have h1 : (q + 1) * 1 ≤ N.toNat * 1 := Nat.mul_le_mul_right _ (by omega)
                rw [Nat.add_mul, Nat.one_mul] at h1
                have := HB.out
                omega)
              go_wp2_with (at_builtin; refine wpList_append_vecsB (S := shSt) (w := w) 22 45 (.agg #[.int .u8 0, .bool false, .int .i64 0, .int .i64 0]) 24 (by rfl) (by rfl) Try.underlying22 info_st (by rfl) (by omega) (by rfl) (by rfl) hown.out hx0 hexi.out.1.1 HKB.out ?_; intro v' w3 hown3 hext3 hgr3)
              go_roundw
              case rel =>
                refine ⟨v', q + 1, rfl, by omega, by go_num, Lib.hid ?_, Lib.hid ⟨hexi.out.1.step hgr3.out.1 hgr3.out.2, hext3.out⟩⟩
                have e1 : pre.length + (q + 1) * 1 = pre.length + q * 1 + 1 := by rw [Nat.add_mul, Nat.one_mul]; omega
                rw [e1, rep_snoc, ← List.append_assoc]
                exact hown3
              case measure => simp [intOf]; omega
            · obtain rfl : q = N.toNat := by omega
              have qN : ¬ ((N.toNat : Int) < N) := by omega
              go_wp2
              go_roundw
              case rel =>
                obtain ⟨e2, e3, e4, e5, -⟩ := HH.out
                refine ⟨V2, k + 1, pre ++ rep N.toNat [⟨ck, cp, ca, cb⟩], r, rfl, by go_num, by omega, by omega, ?_, Lib.hid ⟨?_, ?_, HFR.out, hx0, fun h => ?_⟩⟩
                · rw [List.length_append, rep_len, HL1.out]; have := HB.out; omega
                · rw [List.length_append, rep_len, HL1.out]
                  exact hown.out
                · rw [← e3, HCS2.out, List.append_assoc]
                · refine ⟨b, off, rfl, hb1, ?_⟩
                  rw [show off + (k + 1) * 6 = off + k * 6 + 6 by omega]
                  exact hr
              case measure => simp [intOf]; omega
      · have hn0 : rest.cnt = 0 := by omega
        obtain rfl := cnt_nil hn0
        simp only [Tms.cnt] at hcnt
        obtain ⟨e1, e2, e3, e4, -⟩ := HH.out
        simp only [Tms.cells, List.append_nil] at e2
        obtain rfl : k = n := by omega
        obtain ⟨A2, c2, rfl, hv2, hb2⟩ := own_vecB e1
        have HK2 := Lib.hid (show Vec shSt wr A2 pre.length t.cells ∧ (0 < pre.length → ∀ b off, A2 = some ⟨b, off, none⟩ → w.heap.size ≤ b) by rw [← e2]; exact ⟨hv2, hb2⟩)
        have HE := Lib.hid e4
        clear e1 e2 e3 e4 hv2 hb2
        go_wp2_with fail
        go_ret
        exact ⟨_, _, _, rfl, HE.out, HK2.out.1, HK2.out.2⟩
set_option maxHeartbeats 4000000 in
theorem cells_any : ∀ (M : Nat), M ≤ 5000 → ∀ (t : Tms), t.size ≤ M → fineT t = true → t.cells.length ≤ 200 → ∀ (A : Option Addr) (n cap : Nat) (w : World), Tv w A n t →
    Calls Try.prog 24 #[.slice A n cap] w (StsR t.cells w) := by
  intro M
  induction M using Nat.strongRecOn with
  | ind M ih =>
    intro hM t ht hf hcl A n cap w hv
    have HI := Lib.hid ih
    have HV := Lib.hid hv
    have hnm : n ≤ 5000 := by have h1 := hv.1; have h2 := cnt_size t; omega
    have HF := Lib.hid hf
    clear ih hv hf
    go_enter Try.func24, Try.ntmps24
    go_wp2_with fail
    go_loopw [3, 4] (fun u i wr => ∃ (V : Value) (k : Nat) (pre : List St) (rest : Tms), V = u ∧ i = .int .i64 k ∧ rest.cnt + k = n ∧ rest.size ≤ M ∧ pre.length + rest.cells.length ≤ 200 ∧
      Hid (OwnV shSt wr w.heap.size 45 V pre.length pre ∧ pre ++ rest.cells = t.cells ∧ fineT rest = true ∧ Ext w wr ∧ (0 < rest.cnt → ∃ b off, A = some ⟨b, off, none⟩ ∧ b < w.heap.size ∧ TAt w rest b (off + k * 6)))) (fun _ i _ => n - (intOf i).toNat)
    case atStart =>
      refine ⟨_, 0, [], t, rfl, rfl, by have := HV.out.1; omega, ht, by simpa using hcl, Lib.hid ⟨OwnV.nil _ _ _ _, rfl, HF.out, Ext.refl _, fun h => ?_⟩⟩
      obtain ⟨h1, h2, h3⟩ := HV.out
      obtain ⟨b, off, e, hb, hc⟩ := h3 (by omega)
      exact ⟨b, off, e, hb, by simpa using hc⟩
    case round =>
      obtain ⟨V, k, pre, rest, rfl, rfl, hcnt, hrs, hpl, HH⟩ := hrel
      by_cases hlt : 0 < rest.cnt
      · obtain ⟨N, c, g, r, rfl⟩ := cnt_cons hlt
        obtain ⟨b, off, rfl, hb1, hc⟩ := HH.out.2.2.2.2 hlt
        obtain ⟨A', n', cap', d0, d1, d2, d3, d4, d5, hkk, hg, hr⟩ := hc.head
        have hxr := HH.out.2.2.2.1
        obtain ⟨⟨hN0, hN1⟩, hfg, hfr⟩ := fine_cons HH.out.2.2.1
        have HFR := Lib.hid hfr
        simp only [Tms.cnt, Tms.size] at hcnt hrs
        have hkn : k < n := by omega
        have hz : b < wr.heap.size := Nat.lt_of_lt_of_le hb1 (Below.size hxr)
        have HCS := Lib.hid (cells_own N c g r)
        have hcb : (rep N.toNat (ownC c g)).length + r.cells.length = (Tms.cons N c g r).cells.length := by rw [HCS.out, List.length_append]
        rw [rep_len] at hcb
        have hgcl : 0 < g.cnt → g.cells.length ≤ 200 := fun h => by
          rw [own_grp c h] at hcb
          have : 1 * g.cells.length ≤ N.toNat * g.cells.length := Nat.mul_le_mul_right _ (by omega)
          omega
        have hcall := fun (h0 : 0 < g.cnt) (w' : World) (h : Ext w w') => HI.out (M - 1) (by omega) (by omega) g (by omega) hfg (hgcl h0) A' n' cap' w' (hg.ext h)
        have HC := Lib.hid hcall
        have hgn := Lib.hid hg.1
        have q0 : (0 : Int) ≤ (k : Int) := by omega
        have q1 : (k : Int) < (n : Int) := by omega
        have HE0 := Lib.hid hxr
        have HCB := Lib.hid hcb
        have HKK := Lib.hid hkk
        obtain ⟨ck, cp, ca, cb⟩ := c
        simp only at d1 d2 d3 d4
        obtain ⟨wq, rfl⟩ : ∃ wq : World, wq = wr := ⟨_, rfl⟩
        have fwd : ∀ (o : Nat) (u : Value), w.cell? ⟨b, o, none⟩ = some u → wq.cell? ⟨b, o, none⟩ = some u := fun o u h => (Below.cell (p := ⟨b, o, none⟩) hxr hb1).trans h
        have c0 := fwd _ _ d0
        have c1 := fwd _ _ d1
        have c2 := fwd _ _ d2
        have c3 := fwd _ _ d3
        have c4 := fwd _ _ d4
        have c5 := fwd _ _ d5
        have HBL := Lib.hid (show ∀ b, wq.heap.size ≤ b → some b ≠ V.ownBlock from fun b hb e => by have := (OwnV.blk HH.out.1 b e.symm).2; omega)
        clear hcall hc hxr hfr hfg hgcl hcb hkk fwd
        by_cases hn' : 0 < n'
        · have HOW := Lib.hid (own_grp ⟨ck, cp, ca, cb⟩ (g := g) (by have := hgn.out; omega))
          go_wp2_with (go_at_call 24; ((with_reducible refine (HC.out (by have := hgn.out; omega) _ (HE0.out.trans (by repeat (first | exact Ext.refl _ | assumption | refine Ext.alloc ?_ _ | refine Ext.drew ?_ | refine Ext.drewN ?_ _ | refine Ext.trans ?_ (by assumption))))).mono ?_); rintro e w1 ⟨A1, m1, cap1, rfl, hq1, hv1, hbl1⟩; obtain ⟨hf1, hf2, hf3⟩ := hq1.facts))
          have HXW := Lib.hid (show Ext wq w1 by repeat (first | exact Ext.refl _ | assumption | refine Ext.alloc ?_ _ | refine Ext.drew ?_ | refine Ext.drewN ?_ _ | refine Ext.trans ?_ (by assumption)))
          have HOV := Lib.hid (show VecX w1 V.ownBlock A1 m1 g.cells from ⟨hv1, fun h b off e => HBL.out b (by have := hbl1 h b off e; simp at this; omega)⟩)
          clear hv1 hq1 hbl1
          have HL1 := Lib.hid (HOV.out.1.len)
          have HB := Lib.hid (show pre.length + N.toNat * m1 + r.cells.length ≤ 200 by have h1 := HCB.out; rw [HOW.out, HL1.out] at h1; omega)
          have HCS2 := Lib.hid (show (Tms.cons N ⟨ck, cp, ca, cb⟩ g r).cells = rep N.toNat g.cells ++ r.cells by rw [HCS.out, HOW.out])
          clear hpl
          go_loopw [3, 6] (fun u j wi => ∃ (V : Value) (q : Nat), V = u ∧ q ≤ N.toNat ∧ j = .int .i64 q ∧ Hid (OwnV shSt wi w.heap.size 45 V (pre.length + q * m1) (pre ++ rep q g.cells)) ∧ Hid (VecX wi V.ownBlock A1 m1 g.cells ∧ Ext w wi)) (fun _ j _ => N.toNat - (intOf j).toNat)
          case atStart => exact ⟨_, 0, rfl, by omega, rfl, Lib.hid (by have := (HH.out.1).ext HXW.out; simpa [rep] using this), Lib.hid ⟨HOV.out, HE0.out.trans HXW.out⟩⟩
          case round =>
            obtain ⟨V2, q, rfl, hq, rfl, hown, hexi⟩ := hrel
            have hx0 := hexi.out.2
            obtain ⟨hz1, hz2, hz3⟩ := hx0.facts
            by_cases hlq : q < N.toNat
            · have qN : (q : Int) < N := by omega
              have HKB := Lib.hid (show pre.length + q * m1 + m1 ≤ 1000000 by
                have h1 : (q + 1) * m1 ≤ N.toNat * m1 := Nat.mul_le_mul_right _ (by omega)
                rw [Nat.add_mul, Nat.one_mul] at h1
                have := HB.out
                omega)
              go_wp2_with (at_builtin; refine wpList_append_vecsB (S := shSt) (w := w) 22 45 (.agg #[.int .u8 0, .bool false, .int .i64 0, .int .i64 0]) 24 (by rfl) (by rfl) Try.underlying22 info_st (by rfl) (by omega) (by rfl) (by rfl) hown.out hx0 hexi.out.1.1 HKB.out ?_; intro v' w3 hown3 hext3 hgr3)
              go_roundw
              case rel =>
                refine ⟨v', q + 1, rfl, by omega, by go_num, Lib.hid ?_, Lib.hid ⟨hexi.out.1.step hgr3.out.1 hgr3.out.2, hext3.out⟩⟩
                have e1 : pre.length + (q + 1) * m1 = pre.length + q * m1 + m1 := by rw [Nat.add_mul, Nat.one_mul]; omega
                rw [e1, rep_snoc, ← List.append_assoc]
                exact hown3
              case measure => simp [intOf]; omega
            · obtain rfl : q = N.toNat := by omega
              have qN : ¬ ((N.toNat : Int) < N) := by omega
              go_wp2
              go_roundw
              case rel =>
                obtain ⟨e2, e3, e4, e5, -⟩ := HH.out
                refine ⟨V2, k + 1, pre ++ rep N.toNat g.cells, r, rfl, by go_num, by omega, by omega, ?_, Lib.hid ⟨?_, ?_, HFR.out, hx0, fun h => ?_⟩⟩
                · rw [List.length_append, rep_len, HL1.out]; have := HB.out; omega
                · rw [List.length_append, rep_len, HL1.out]
                  exact hown.out
                · rw [← e3, HCS2.out, List.append_assoc]
                · refine ⟨b, off, rfl, hb1, ?_⟩
                  rw [show off + (k + 1) * 6 = off + k * 6 + 6 by omega]
                  exact hr
              case measure => simp [intOf]; omega
        · obtain rfl := cnt_nil (t := g) (by have := hgn.out; omega)
          obtain rfl : n' = 0 := by omega
          have HOW := Lib.hid (own_one ⟨ck, cp, ca, cb⟩)
          go_wp2_with fail
          have HXW := Lib.hid (show Ext wq ((wq).alloc (.cells #[.int .u8 ck, .bool cp, .int .i64 ca, .int .i64 cb] 45)) by repeat (first | exact Ext.refl _ | assumption | refine Ext.alloc ?_ _ | refine Ext.drew ?_ | refine Ext.drewN ?_ _ | refine Ext.trans ?_ (by assumption)))
          have HOV := Lib.hid (show VecX ((wq).alloc (.cells #[.int .u8 ck, .bool cp, .int .i64 ca, .int .i64 cb] 45)) V.ownBlock (some ⟨wq.heap.size, 0, none⟩) 1 [⟨ck, cp, ca, cb⟩] from ⟨Vec.lit2 (by simp) rfl rfl, fun h b off e => HBL.out b (by cases e; omega)⟩)
          have HL1 := Lib.hid (HOV.out.1.len)
          have HB := Lib.hid (show pre.length + N.toNat * 1 + r.cells.length ≤ 200 by have h1 := HCB.out; rw [HOW.out, HL1.out] at h1; omega)
          have HCS2 := Lib.hid (show (Tms.cons N ⟨ck, cp, ca, cb⟩ .nil r).cells = rep N.toNat [⟨ck, cp, ca, cb⟩] ++ r.cells by rw [HCS.out, HOW.out])
          clear hpl
          go_loopw [3, 6] (fun u j wi => ∃ (V : Value) (q : Nat), V = u ∧ q ≤ N.toNat ∧ j = .int .i64 q ∧ Hid (OwnV shSt wi w.heap.size 45 V (pre.length + q * 1) (pre ++ rep q [⟨ck, cp, ca, cb⟩])) ∧ Hid (VecX wi V.ownBlock (some ⟨wq.heap.size, 0, none⟩) 1 [⟨ck, cp, ca, cb⟩] ∧ Ext w wi)) (fun _ j _ => N.toNat - (intOf j).toNat)
          case atStart => exact ⟨_, 0, rfl, by omega, rfl, Lib.hid (by have := (HH.out.1).ext HXW.out; simpa [rep] using this), Lib.hid ⟨HOV.out, HE0.out.trans HXW.out⟩⟩
          case round =>
            obtain ⟨V2, q, rfl, hq, rfl, hown, hexi⟩ := hrel
            have hx0 := hexi.out.2
            obtain ⟨hz1, hz2, hz3⟩ := hx0.facts
            by_cases hlq : q < N.toNat
            · have qN : (q : Int) < N := by omega
              have HKB := Lib.hid (show pre.length + q * 1 + 1 ≤ 1000000 by
                have h1 : (q + 1) * 1 ≤ N.toNat * 1 := Nat.mul_le_mul_right _ (by omega)
                rw [Nat.add_mul, Nat.one_mul] at h1
                have := HB.out
                omega)
              go_wp2_with (at_builtin; refine wpList_append_vecsB (S := shSt) (w := w) 22 45 (.agg #[.int .u8 0, .bool false, .int .i64 0, .int .i64 0]) 24 (by rfl) (by rfl) Try.underlying22 info_st (by rfl) (by omega) (by rfl) (by rfl) hown.out hx0 hexi.out.1.1 HKB.out ?_; intro v' w3 hown3 hext3 hgr3)
              go_roundw
              case rel =>
                refine ⟨v', q + 1, rfl, by omega, by go_num, Lib.hid ?_, Lib.hid ⟨hexi.out.1.step hgr3.out.1 hgr3.out.2, hext3.out⟩⟩
                have e1 : pre.length + (q + 1) * 1 = pre.length + q * 1 + 1 := by rw [Nat.add_mul, Nat.one_mul]; omega
                rw [e1, rep_snoc, ← List.append_assoc]
                exact hown3
              case measure => simp [intOf]; omega
            · obtain rfl : q = N.toNat := by omega
              have qN : ¬ ((N.toNat : Int) < N) := by omega
              go_wp2
              go_roundw
              case rel =>
                obtain ⟨e2, e3, e4, e5, -⟩ := HH.out
                refine ⟨V2, k + 1, pre ++ rep N.toNat [⟨ck, cp, ca, cb⟩], r, rfl, by go_num, by omega, by omega, ?_, Lib.hid ⟨?_, ?_, HFR.out, hx0, fun h => ?_⟩⟩
                · rw [List.length_append, rep_len, HL1.out]; have := HB.out; omega
                · rw [List.length_append, rep_len, HL1.out]
                  exact hown.out
                · rw [← e3, HCS2.out, List.append_assoc]
                · refine ⟨b, off, rfl, hb1, ?_⟩
                  rw [show off + (k + 1) * 6 = off + k * 6 + 6 by omega]
                  exact hr
              case measure => simp [intOf]; omega
      · have hn0 : rest.cnt = 0 := by omega
        obtain rfl := cnt_nil hn0
        simp only [Tms.cnt] at hcnt
        obtain ⟨e1, e2, e3, e4, -⟩ := HH.out
        simp only [Tms.cells, List.append_nil] at e2
        obtain rfl : k = n := by omega
        obtain ⟨A2, c2, rfl, hv2, hb2⟩ := own_vecB e1
        have HK2 := Lib.hid (show Vec shSt wr A2 pre.length t.cells ∧ (0 < pre.length → ∀ b off, A2 = some ⟨b, off, none⟩ → w.heap.size ≤ b) by rw [← e2]; exact ⟨hv2, hb2⟩)
        have HE := Lib.hid e4
        clear e1 e2 e3 e4 hv2 hb2
        go_wp2_with fail
        go_ret
        exact ⟨_, _, _, rfl, HE.out, HK2.out.1, HK2.out.2⟩
end Go.Proofs.Ytfbfkoeaihknoaa
