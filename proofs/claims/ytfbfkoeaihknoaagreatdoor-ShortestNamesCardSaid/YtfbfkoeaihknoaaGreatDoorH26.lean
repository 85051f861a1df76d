/- The reference's list of terms: its walk. -/
import Derived.Test.YtfbfkoeaihknoaaGreatDoorH25
import Derived.Test.YtfbfkoeaihknoaaGreatDoorProg
import Derived.Test.YtfbfkoeaihknoaaGreatDoorH01
import Derived.Shelf.Strings.BuilderK
namespace Go.Proofs.YtfbfkoeaihknoaaGreatDoor
set_option maxRecDepth 100000
set_option maxRecDepth 100000
open Go.RowKit Go.ChangeShapes Go.WideShapes Go.Joins
theorem wpList_append_tmR {P : Program} {ops : Array Oper} {rest : List Oper} {o : Oper} {a : Act} {Q : Exit → Act → World → Prop} {w wx : World} (T e : TypeId) (z : Value) (bytes : Nat) {s x : Operand} {v : Value} {k : Nat} (g0 : Nat) {t g : Tms} (N : Int) (c : St) {A : Option Addr} {n cap : Nat}
    (hgd : o.guard = none) (ho : o.op = .call { callee := .builtin .append, args := #[s, x], argTypes := #[T, T] })
    (ht : P.underlying T = some (.slice e)) (hinfo : (P.info? e).map (fun i => (i.zero, i.size, i.bytes)) = some (some z, 6, bytes)) (hzs : z.cells.size = 6) (hby : bytes ≤ 1000)
    (hs : a.eval s = v) (hx : a.eval x = .slice (some ⟨g0, 0, none⟩) 1 1) (hown : OwnT wx w.heap.size e v k t) (hext : Ext w wx) (hck : 0 ≤ c.k ∧ c.k ≤ 255)
    (hg : TvK wx (fun b => w.heap.size ≤ b ∧ some b ≠ v.ownBlock) A n g)
    (hA : ∀ j u, ([.int .i64 N, .int .u8 c.k, .bool c.p, .int .i64 c.a, .int .i64 c.b, .slice A n cap] : List Value)[j]? = some u → wx.cell? ⟨g0, j, none⟩ = some u) (hk : k + 1 ≤ 1000000)
    (h : ∀ A' c' w1, OwnT w1 w.heap.size e (.slice A' (k + 1) c') (k + 1) (t.app (.cons N c g .nil)) → Hid (Ext w w1) → wpList P ops Q rest (a.put o.dst (.slice A' (k + 1) c')) w1) : wpList P ops Q (o :: rest) a wx :=
  wpList_plain hgd fun _ hK => wp_append_tm T e z bytes g0 N c ho ht hinfo hzs hby hs hx hown hext hck hg hA hk fun v' w' h2 h3 => by
    obtain ⟨A', c', rfl, -⟩ := own_tms h2 hk
    exact hK _ _ (h A' c' w' h2 h3)
theorem tm_new2 (w : World) (o : Obj) (N k : Int) (p : Bool) (a b : Int) (v : Value) (T : TypeId) :
    ∀ j u, ([.int .i64 N, .int .u8 k, .bool p, .int .i64 a, .int .i64 b, v] : List Value)[j]? = some u → ((w.alloc o).alloc (.cells #[.int .i64 N, .int .u8 k, .bool p, .int .i64 a, .int .i64 b, v] T)).cell? ⟨w.heap.size + 1, j, none⟩ = some u := by
  intro j u hj
  have h := tm_new (w.alloc o) N k p a b v T j u hj
  have e : (w.alloc o).heap.size = w.heap.size + 1 := by simp
  rw [e] at h
  exact h
set_option maxHeartbeats 8000000 in
theorem rlist_any : ∀ (f d : Nat) (s : List UInt8) (w : World) (di : Int), di = (d : Int) → d ≤ 20 → s.length ≤ 10000 → 3 * s.length + 3 ≤ f →
    Calls Tryz.prog 34 #[.string ⟨s.toArray⟩, .int .i64 di] w (RListR (listP f d s) w) := by
  intro f
  induction f using Nat.strongRecOn with
  | ind f ih =>
    intro d s w di hdi hd hl hf
    subst hdi
    have HT := Lib.hid (fun (k : Nat) (hk : k < f) (s' : List UInt8) (w' : World) (hl' : s'.length ≤ 10000) (hf' : 3 * s'.length + 2 ≤ k) => rterm_any k d s' w' hd hl' (fun f2 hf2 d2 s2 w2 di2 e2 hd2 hl2 hg2 => ih f2 (by omega) d2 s2 w2 di2 e2 hd2 hl2 hg2) hf')
    have HEN := Lib.hid (fun (j : Nat) (hj : j ≤ s.length) (w' : World) => end_any s (by omega) j hj w')
    clear ih
    obtain ⟨zt, hzt, hzs⟩ := info_tm
    have HZT := Lib.hid hzt
    have HZS := Lib.hid hzs
    clear hzt hzs
    by_cases h0 : s = []
    · subst h0
      have HR := Lib.hid (show listP f d [] = some .nil from rfl)
      clear HT HEN
      go_enter Tryz.func34, Tryz.ntmps34
      go_wp2_with fail
      go_ret2
      exact RListR.yes HR.out (by repeat (first | exact Ext.refl _ | assumption | refine Ext.alloc ?_ _ | refine Ext.drew ?_ | refine Ext.drewN ?_ _ | refine Ext.trans ?_ (by assumption))) (OwnT.nil _ _ _)
    · have HR := Lib.hid (show listP f d s = rlL f d 0 s by rw [listP, if_neg h0])
      have hpos : 0 < s.length := List.length_pos_iff.2 h0
      have hz : ((s.length : Int) == 0) = false := by rw [beq_eq_false_iff_ne]; omega
      clear h0
      go_enter Tryz.func34, Tryz.ntmps34
      go_wp2_with fail
      go_loopw [6, 7] (fun u i wr => ∃ (A : Option Addr) (cc j F : Nat) (done : Tms), u = .slice A done.cnt cc ∧ i = .int .i64 j ∧ j ≤ s.length + 1 ∧ done.cnt ≤ j ∧ F ≤ f ∧ (j ≤ s.length → 3 * (s.length - j) + 3 ≤ F) ∧
        Hid (Ext w wr ∧ OwnT wr w.heap.size 48 (.slice A done.cnt cc) done.cnt done ∧ (j ≤ s.length → rlL f d 0 s = contL F d done (s.drop j)) ∧ (s.length < j → rlL f d 0 s = some done))) (fun _ i _ => s.length + 1 - (intOf i).toNat)
      case atStart => exact ⟨none, 0, 0, f, .nil, rfl, rfl, by omega, Nat.zero_le _, Nat.le_refl _, fun _ => by omega, Lib.hid ⟨by repeat (first | exact Ext.refl _ | assumption | refine Ext.alloc ?_ _ | refine Ext.drew ?_ | refine Ext.drewN ?_ _ | refine Ext.trans ?_ (by assumption)), OwnT.nil _ _ _, fun _ => by rw [contL_start]; rfl, fun h => by omega⟩⟩
      case round =>
        obtain ⟨A, cc, j, F, done, rfl, rfl, hj, hcj, hF, hFj, HH⟩ := hrel
        obtain ⟨wa, rfl⟩ : ∃ wa : World, wa = wr := ⟨_, rfl⟩
        have q0 : (0 : Int) ≤ (j : Int) := by omega
        have hxr := HH.out.1
        by_cases hjl : j ≤ s.length
        · have q1 : (j : Int) ≤ (s.length : Int) := by omega
          have hFj2 := hFj hjl
          obtain ⟨F, rfl⟩ : ∃ F', F = F' + 1 := ⟨F - 1, by omega⟩
          have HC := Lib.hid (HR.out.trans (HH.out.2.2.1 hjl))
          obtain ⟨X, hX⟩ : ∃ X, (endP 0 (s.drop j)).1 = X := ⟨_, rfl⟩
          obtain ⟨Y, hY⟩ : ∃ Y, (endP 0 (s.drop j)).2 = Y := ⟨_, rfl⟩
          have hap := endP_app (s.drop j) 0
          rw [hX, hY] at hap
          have hlen : X.length + Y.length = s.length - j := by
            have h9 := congrArg List.length hap
            simpa using h9
          obtain ⟨T, hT⟩ : ∃ T, j + X.length = T := ⟨_, rfl⟩
          have hmid : (⟨s.toArray⟩ : ByteArray).extract j T = ⟨X.toArray⟩ := by rw [str_mid, show T - j = X.length by omega, ← hap, List.take_left]
          have HEJ := Lib.hid (fun (w' : World) => (show Calls Tryz.prog 55 #[.string ⟨s.toArray⟩, .int .i64 (j : Int)] w' fun e w'' => e = .returned (.int .i64 (T : Int)) ∧ Ext w' w'' from by
            have h9 := HEN.out j hjl w'
            rw [hX, hT] at h9
            exact h9))
          have HTX := Lib.hid (fun (w' : World) => HT.out F (by omega) X w' (by omega) (by omega))
          have t0 : j ≤ T := by omega
          have t1 : T ≤ s.length := by omega
          have t2 : T + Y.length = s.length := by omega
          have t3 : s.drop T = Y := by rw [← hT, ← List.drop_drop, ← hap, List.drop_left]
          have r1 : (j : Int) ≤ (T : Int) := by omega
          have r2 : (T : Int) ≤ (s.length : Int) := by omega
          have HX := Lib.hid hX
          have HY := Lib.hid hY
          have HT3 := Lib.hid t3
          clear hX hY hap hT t3
          cases hq : rlT F d X with
          | none =>
            have HN := Lib.hid (HC.out.trans (contL_none (by rw [HX.out]; exact hq)))
            have HQ := Lib.hid hq
            clear hq
            go_wp2_with (first
              | (go_at_call 55; ((with_reducible refine (HEJ.out _).mono ?_); rintro e w1 ⟨rfl, hq1⟩))
              | (go_at_call 56; go_loud ((with_reducible refine (HTX.out _).mono ?_); rintro e w2 ⟨hb, hn, -⟩; obtain ⟨n9, A9, m9, p9, rfl⟩ := hn HQ.out; have HB := Lib.hid (Ext.trans (by repeat (first | exact Ext.refl _ | assumption | refine Ext.alloc ?_ _ | refine Ext.drew ?_ | refine Ext.drewN ?_ _ | refine Ext.trans ?_ (by assumption)) : Ext wa _) hb); clear hb hn)))
            go_ret2
            exact RListR.no HN.out ((hxr.trans HB.out).alloc _)
          | some x =>
            obtain ⟨N, ⟨ck, cp, ca, cb⟩, g⟩ := x
            have HQ := Lib.hid hq
            have HQX := Lib.hid (show rlT F d (endP 0 (s.drop j)).1 = some (N, ⟨ck, cp, ca, cb⟩, g) by rw [HX.out]; exact hq)
            clear hq
            by_cases hm : 200 < done.cnt
            · have HN := Lib.hid (HC.out.trans (contL_many hm))
              have hm2 : (200 : Int) < (done.cnt : Int) := by omega
              go_wp2_with (first
                | (go_at_call 55; ((with_reducible refine (HEJ.out _).mono ?_); rintro e w1 ⟨rfl, hq1⟩))
                | (go_at_call 56; go_loud ((with_reducible refine (HTX.out _).mono ?_); rintro e w2 ⟨hb, -, hy⟩; obtain ⟨A3, p3, rfl, -, -⟩ := hy _ _ _ HQ.out; have HB := Lib.hid (Ext.trans (by repeat (first | exact Ext.refl _ | assumption | refine Ext.alloc ?_ _ | refine Ext.drew ?_ | refine Ext.drewN ?_ _ | refine Ext.trans ?_ (by assumption)) : Ext wa _) hb); clear hb hy)))
              go_ret2
              exact RListR.no HN.out ((hxr.trans HB.out).alloc _)
            · have hm2 : ¬ ((200 : Int) < (done.cnt : Int)) := by omega
              have HBL := Lib.hid (show ∀ b, wa.heap.size ≤ b → w.heap.size ≤ b ∧ some b ≠ (Value.slice A done.cnt cc).ownBlock from fun b hb => by
                obtain ⟨_, L, hL, _⟩ := HH.out.2.1
                exact ⟨Nat.le_trans (Below.size hxr) hb, fun e => by have := (own_blk hL b e.symm).2; omega⟩)
              have HOW := Lib.hid (fun (w' : World) (h : Ext wa w') => (HH.out.2.1).ext h)
              cases Y with
              | nil =>
                have HN := Lib.hid (HC.out.trans (contL_last HQX.out hm HY.out))
                have e9 : T = s.length := by simpa using t2
                subst e9
                go_wp2_with (first
                  | (go_at_call 55; ((with_reducible refine (HEJ.out _).mono ?_); rintro e w1 ⟨rfl, hq1⟩))
                  | (go_at_call 56; go_loud ((with_reducible refine (HTX.out _).mono ?_); rintro e w2 ⟨hb, -, hy⟩; obtain ⟨A3, p3, rfl, htv, hkk⟩ := hy _ _ _ HQ.out; have HB := Lib.hid (Ext.trans (by repeat (first | exact Ext.refl _ | assumption | refine Ext.alloc ?_ _ | refine Ext.drew ?_ | refine Ext.drewN ?_ _ | refine Ext.trans ?_ (by assumption)) : Ext wa _) hb); have HTV := Lib.hid (htv.mono (K' := fun b => w.heap.size ≤ b ∧ some b ≠ (Value.slice A done.cnt cc).ownBlock) (fun b _ h => HBL.out b (Nat.le_trans (Below.size (by repeat (first | exact Ext.refl _ | assumption | refine Ext.alloc ?_ _ | refine Ext.drew ?_ | refine Ext.drewN ?_ _ | refine Ext.trans ?_ (by assumption)) : Ext wa _)) h))); have HKK := Lib.hid hkk; clear hb hy htv hkk))
                  | (at_builtin; go_loud (refine wpList_append_tmR (w := w) 22 48 zt 56 (w2.heap.size + 1) N ⟨ck, cp, ca, cb⟩ (t := done) (g := g) (A := A3) (n := g.cnt) (cap := p3) (by rfl) (by rfl) Tryz.underlying22 HZT.out HZS.out (by omega) (by rfl) (by rfl) (HOW.out _ (HB.out.trans (((Ext.refl _).alloc _).alloc _))) ((hxr.trans HB.out).trans (((Ext.refl _).alloc _).alloc _)) HKK.out (HTV.out.ext (((Ext.refl _).alloc _).alloc _)) (tm_new2 _ _ _ _ _ _ _ _ _) (by omega) ?_; intro A4 c4 w4 hown4 hext4)))
                go_roundw
                case rel =>
                  have e8 : (done.app (Tms.cons N ⟨ck, cp, ca, cb⟩ g .nil)).cnt = done.cnt + 1 := app_cnt _ _
                  exact ⟨A4, c4, s.length + 1, F, done.app (.cons N ⟨ck, cp, ca, cb⟩ g .nil), by rw [e8], by go_num, by omega, by omega, by omega, fun h => by omega, Lib.hid ⟨hext4.out, by rw [e8]; exact hown4, fun h => by omega, fun _ => HR.out.symm.trans HN.out⟩⟩
                case measure => simp [intOf] <;> omega
              | cons x s2 =>
                have hsT : s.getD T 0 = x := by
                  have h9 := HT3.out
                  have h8 := congrArg (fun l => l.getD 0 0) h9
                  simp only [List.getD_cons_zero] at h8
                  rw [← h8]
                  simp [List.getD_eq_getElem?_getD, List.getElem?_drop]
                have hTlt : T < s.length := by simp only [List.length_cons] at t2; omega
                have h5 := str_at s T
                rw [hsT] at h5
                have q5 : (T : Int) < (s.length : Int) := by omega
                have q6 : (0 : Int) ≤ (T : Int) := by omega
                have HST := Lib.hid hsT
                clear hsT
                by_cases hx : x = 32
                · subst hx
                  have HN := Lib.hid (HC.out.trans (contL_next HQX.out hm HY.out))
                  have HS2 := Lib.hid (show s.drop (T + 1) = s2 by rw [← List.drop_drop, HT3.out]; rfl)
                  go_wp2_with (first
                    | (go_at_call 55; ((with_reducible refine (HEJ.out _).mono ?_); rintro e w1 ⟨rfl, hq1⟩))
                    | (go_at_call 56; go_loud ((with_reducible refine (HTX.out _).mono ?_); rintro e w2 ⟨hb, -, hy⟩; obtain ⟨A3, p3, rfl, htv, hkk⟩ := hy _ _ _ HQ.out; have HB := Lib.hid (Ext.trans (by repeat (first | exact Ext.refl _ | assumption | refine Ext.alloc ?_ _ | refine Ext.drew ?_ | refine Ext.drewN ?_ _ | refine Ext.trans ?_ (by assumption)) : Ext wa _) hb); have HTV := Lib.hid (htv.mono (K' := fun b => w.heap.size ≤ b ∧ some b ≠ (Value.slice A done.cnt cc).ownBlock) (fun b _ h => HBL.out b (Nat.le_trans (Below.size (by repeat (first | exact Ext.refl _ | assumption | refine Ext.alloc ?_ _ | refine Ext.drew ?_ | refine Ext.drewN ?_ _ | refine Ext.trans ?_ (by assumption)) : Ext wa _)) h))); have HKK := Lib.hid hkk; clear hb hy htv hkk))
                    | (at_builtin; go_loud (refine wpList_append_tmR (w := w) 22 48 zt 56 (w2.heap.size + 1) N ⟨ck, cp, ca, cb⟩ (t := done) (g := g) (A := A3) (n := g.cnt) (cap := p3) (by rfl) (by rfl) Tryz.underlying22 HZT.out HZS.out (by omega) (by rfl) (by rfl) (HOW.out _ (HB.out.trans (((Ext.refl _).alloc _).alloc _))) ((hxr.trans HB.out).trans (((Ext.refl _).alloc _).alloc _)) HKK.out (HTV.out.ext (((Ext.refl _).alloc _).alloc _)) (tm_new2 _ _ _ _ _ _ _ _ _) (by omega) ?_; intro A4 c4 w4 hown4 hext4)))
                  go_roundw
                  case rel =>
                    have e8 : (done.app (Tms.cons N ⟨ck, cp, ca, cb⟩ g .nil)).cnt = done.cnt + 1 := app_cnt _ _
                    exact ⟨A4, c4, T + 1, F, done.app (.cons N ⟨ck, cp, ca, cb⟩ g .nil), by rw [e8], by go_num, by omega, by omega, by omega, fun h => by omega, Lib.hid ⟨hext4.out, by rw [e8]; exact hown4, fun _ => by rw [HS2.out]; exact HR.out.symm.trans HN.out, fun h => by omega⟩⟩
                  case measure => simp [intOf] <;> omega
                · have HN := Lib.hid (HC.out.trans (contL_bad HY.out hx))
                  have b32 : ((x.toNat : Int) != 32) = true := by rw [bne_iff_ne]; intro e; exact hx (UInt8.toNat_inj.1 (by rw [show ((32 : UInt8).toNat) = 32 from rfl]; omega))
                  clear hx
                  go_wp2_with (first
                    | (go_at_call 55; ((with_reducible refine (HEJ.out _).mono ?_); rintro e w1 ⟨rfl, hq1⟩))
                    | (go_at_call 56; go_loud ((with_reducible refine (HTX.out _).mono ?_); rintro e w2 ⟨hb, -, hy⟩; obtain ⟨A3, p3, rfl, htv, hkk⟩ := hy _ _ _ HQ.out; have HB := Lib.hid (Ext.trans (by repeat (first | exact Ext.refl _ | assumption | refine Ext.alloc ?_ _ | refine Ext.drew ?_ | refine Ext.drewN ?_ _ | refine Ext.trans ?_ (by assumption)) : Ext wa _) hb); have HTV := Lib.hid (htv.mono (K' := fun b => w.heap.size ≤ b ∧ some b ≠ (Value.slice A done.cnt cc).ownBlock) (fun b _ h => HBL.out b (Nat.le_trans (Below.size (by repeat (first | exact Ext.refl _ | assumption | refine Ext.alloc ?_ _ | refine Ext.drew ?_ | refine Ext.drewN ?_ _ | refine Ext.trans ?_ (by assumption)) : Ext wa _)) h))); have HKK := Lib.hid hkk; clear hb hy htv hkk))
                    | (at_builtin; go_loud (refine wpList_append_tmR (w := w) 22 48 zt 56 (w2.heap.size + 1) N ⟨ck, cp, ca, cb⟩ (t := done) (g := g) (A := A3) (n := g.cnt) (cap := p3) (by rfl) (by rfl) Tryz.underlying22 HZT.out HZS.out (by omega) (by rfl) (by rfl) (HOW.out _ (HB.out.trans (((Ext.refl _).alloc _).alloc _))) ((hxr.trans HB.out).trans (((Ext.refl _).alloc _).alloc _)) HKK.out (HTV.out.ext (((Ext.refl _).alloc _).alloc _)) (tm_new2 _ _ _ _ _ _ _ _ _) (by omega) ?_; intro A4 c4 w4 hown4 hext4)))
                  go_ret2
                  exact RListR.no HN.out hext4.out
        · have hn : ¬ ((j : Int) ≤ (s.length : Int)) := by omega
          have HN := Lib.hid (HR.out.trans (HH.out.2.2.2 (by omega)))
          go_wp2_with fail
          go_ret2
          exact RListR.yes HN.out hxr (HH.out.2.1)
end Go.Proofs.YtfbfkoeaihknoaaGreatDoor
/- strings.Builder: WriteString, laid by hand (the kit's tool passes over it: no body of the closure names the types string and interface). -/
namespace Go.Proofs.YtfbfkoeaihknoaaGreatDoor
set_option maxRecDepth 100000
set_option maxRecDepth 100000
open Go.RowKit Go.Shelf
def bldRen : Go.Shelf.Ren := ⟨fun | 166 => 45 | 240 => 61 | 276 => 73 | n => n, fun | 0 => 0 | 3 => 3 | 4 => 4 | 5 => 5 | 9 => 9 | 20 => 20 | 37 => 58 | 70 => 57 | 72 => 60 | 75 => 83 | 80 => 63 | 164 => 120 | n => n, fun | n => n⟩
theorem bldLays : Lays.n166 Tryz.prog bldRen where
  mixed := by kernel_rfl
  f166 := Tryz.func45.trans (congrArg some (by kernel_rfl))
  f240 := Tryz.func61.trans (congrArg some (by kernel_rfl))
  f276 := Tryz.func73.trans (congrArg some (by kernel_rfl))
  t0 := Tryz.underlying0
  a0 := Tryz.isAgg0
  z0 := Tryz.sizeOf0
  v0 := Tryz.zeroValue0
  t3 := Tryz.underlying3
  a3 := Tryz.isAgg3
  z3 := Tryz.sizeOf3
  v3 := Tryz.zeroValue3
  t4 := Tryz.underlying4
  a4 := Tryz.isAgg4
  z4 := Tryz.sizeOf4
  v4 := Tryz.zeroValue4
  t9 := Tryz.underlying9
  a9 := Tryz.isAgg9
  z9 := Tryz.sizeOf9
  v9 := Tryz.zeroValue9
  t20 := Tryz.underlying20
  a20 := Tryz.isAgg20
  z20 := Tryz.sizeOf20
  v20 := Tryz.zeroValue20
  t37 := Tryz.underlying58
  a37 := Tryz.isAgg58
  z37 := Tryz.sizeOf58
  v37 := Tryz.zeroValue58
  t70 := Tryz.underlying57
  a70 := Tryz.isAgg57
  z70 := Tryz.sizeOf57
  v70 := Tryz.zeroValue57
  t72 := Tryz.underlying60
  a72 := Tryz.isAgg60
  z72 := Tryz.sizeOf60
  v72 := Tryz.zeroValue60
  t75 := Tryz.underlying83
  a75 := Tryz.isAgg83
  z75 := Tryz.sizeOf83
  v75 := Tryz.zeroValue83
  t164 := Tryz.underlying120
  a164 := Tryz.isAgg120
  z164 := Tryz.sizeOf120
  v164 := Tryz.zeroValue120
theorem bldX : Builder.Extra Tryz.prog bldRen where
  sizeBuilder := by kernel_rfl
  liesBuilder := by kernel_rfl
  t5 := Tryz.underlying5
  a5 := Tryz.isAgg5
  z5 := Tryz.sizeOf5
  v5 := Tryz.zeroValue5
  infoByte := by kernel_rfl
  cellsByte := by kernel_rfl
  sizeByte := by kernel_rfl
  neB5 := by decide
theorem bld_write (B b : Nat) (l x : List UInt8) (w : World) (h : Lib.IsBuilderF 60 5 B b (Lib.byteCells l) w) (hlen : l.length + x.length ≤ 1000000000) (hBw : B ≤ w.heap.size) :
    Calls Tryz.prog 45 #[.pointer (some ⟨b, 0, none⟩), .string ⟨x.toArray⟩] w fun e w' => e = .returned (.tuple #[.int .i64 x.length, .nilIface]) ∧ Lib.IsBuilderF 60 5 B b (Lib.byteCells (l ++ x)) w' ∧ Below B w w' := by
  have h1 := Any.Builder_WriteString_k bldLays bldX B b (Lib.byteCells l) ⟨x.toArray⟩ w h (by have e1 : (Lib.byteCells l).length = l.length := by simp [Lib.byteCells]
                                                                                              have e2 : (⟨x.toArray⟩ : ByteArray).size = x.length := by simp [ByteArray.size]
                                                                                              omega) hBw
  refine h1.mono ?_
  rintro e w' ⟨rfl, h2, h3, -⟩
  refine ⟨by simp [ByteArray.size], .inr ?_, h3⟩
  have e : Lib.byteCells (l ++ x) = Lib.byteCells l ++ Lib.strCells ⟨x.toArray⟩ := by simp [Lib.byteCells, Lib.strCells]
  rw [e]
  exact h2
/-- a builder lies as it lay where the world has only grown -/
theorem bld_ext {T e : TypeId} {B b : Nat} {bs : List Value} {w w' : World} (h : Lib.IsBuilderF T e B b bs w) (hb : Ext w w') : Lib.IsBuilderF T e B b bs w' := by
  have key : ∀ (k : Nat) (o : Obj), w.heap[k]? = some o → w'.heap[k]? = some o := fun k o hk => by
    rw [hb.block k (Array.getElem?_eq_some_iff.1 hk).1]
    exact hk
  have at_ : ∀ p, Lib.BuilderAtF T e B b p bs w → Lib.BuilderAtF T e B b p bs w' := fun p ⟨hB, v, hbk, hown, hne⟩ =>
    ⟨hB, v, key _ _ hbk, ⟨hown.1, hown.2.imp id fun ⟨g, cap, cur, fz, a, c, d, r⟩ => ⟨g, cap, cur, fz, a, c, key _ _ d, r⟩⟩, hne⟩
  exact h.elim (fun x => .inl (at_ _ x)) (fun x => .inr (at_ _ x))
/-- a builder just declared holds nothing -/
theorem bld_new (w : World) (T e : TypeId) (B : Nat) (hB : B ≤ w.heap.size) : Lib.IsBuilderF T e B w.heap.size (Lib.byteCells []) (w.alloc (.cells #[.pointer none, .slice none 0 0] T)) :=
  .inl ⟨hB, .slice none 0 0, heap_alloc_new w _, ⟨by simp [Lib.byteCells], .inl ⟨rfl, rfl⟩⟩, by simp [Value.ownBlock]⟩
end Go.Proofs.YtfbfkoeaihknoaaGreatDoor
/- strings.Builder: WriteByte, laid by hand as WriteString is; what both leave as it was; a builder that a call writes to. -/
namespace Go.Proofs.YtfbfkoeaihknoaaGreatDoor
set_option maxRecDepth 100000
set_option maxRecDepth 100000
open Go.RowKit Go.Shelf
def bytRen : Go.Shelf.Ren := ⟨fun | 167 => 43 | 240 => 61 | 276 => 73 | n => n, fun | 0 => 0 | 3 => 3 | 4 => 4 | 5 => 5 | 9 => 9 | 20 => 20 | 37 => 58 | 70 => 57 | 72 => 60 | 75 => 83 | 80 => 63 | 164 => 120 | n => n, fun | n => n⟩
theorem bytLays : Lays.n167 Tryz.prog bytRen where
  mixed := by kernel_rfl
  f167 := Tryz.func43.trans (congrArg some (by kernel_rfl))
  f240 := Tryz.func61.trans (congrArg some (by kernel_rfl))
  f276 := Tryz.func73.trans (congrArg some (by kernel_rfl))
  t0 := Tryz.underlying0
  a0 := Tryz.isAgg0
  z0 := Tryz.sizeOf0
  v0 := Tryz.zeroValue0
  t4 := Tryz.underlying4
  a4 := Tryz.isAgg4
  z4 := Tryz.sizeOf4
  v4 := Tryz.zeroValue4
  t5 := Tryz.underlying5
  a5 := Tryz.isAgg5
  z5 := Tryz.sizeOf5
  v5 := Tryz.zeroValue5
  t9 := Tryz.underlying9
  a9 := Tryz.isAgg9
  z9 := Tryz.sizeOf9
  v9 := Tryz.zeroValue9
  t20 := Tryz.underlying20
  a20 := Tryz.isAgg20
  z20 := Tryz.sizeOf20
  v20 := Tryz.zeroValue20
  t37 := Tryz.underlying58
  a37 := Tryz.isAgg58
  z37 := Tryz.sizeOf58
  v37 := Tryz.zeroValue58
  t70 := Tryz.underlying57
  a70 := Tryz.isAgg57
  z70 := Tryz.sizeOf57
  v70 := Tryz.zeroValue57
  t72 := Tryz.underlying60
  a72 := Tryz.isAgg60
  z72 := Tryz.sizeOf60
  v72 := Tryz.zeroValue60
  t75 := Tryz.underlying83
  a75 := Tryz.isAgg83
  z75 := Tryz.sizeOf83
  v75 := Tryz.zeroValue83
  t164 := Tryz.underlying120
  a164 := Tryz.isAgg120
  z164 := Tryz.sizeOf120
  v164 := Tryz.zeroValue120
theorem bytX : Builder.Extra Tryz.prog bytRen where
  sizeBuilder := by kernel_rfl
  liesBuilder := by kernel_rfl
  t5 := Tryz.underlying5
  a5 := Tryz.isAgg5
  z5 := Tryz.sizeOf5
  v5 := Tryz.zeroValue5
  infoByte := by kernel_rfl
  cellsByte := by kernel_rfl
  sizeByte := by kernel_rfl
  neB5 := by decide
/-- a builder that a call writes to: what it holds, and what stays as it was -/
structure WSt (W0 w0 : World) (b : Nat) (l : List UInt8) (w : World) : Prop where
  bl : Lib.IsBuilderF 60 5 W0.heap.size b (Lib.byteCells l) w
  ex : Ext W0 w
  kp : Lib.OthersKept 5 (some b) w0 w
theorem kept_ext {e : TypeId} {b : Option Nat} {w w' : World} (h : Ext w w') : Lib.OthersKept e b w w' := fun k o hk _ _ => by
  rw [h.block k (Array.getElem?_eq_some_iff.1 hk).1]
  exact hk
theorem WSt.ext {W0 w0 w w' : World} {b : Nat} {l : List UInt8} (h : WSt W0 w0 b l w) (hb : Ext w w') : WSt W0 w0 b l w' := ⟨bld_ext h.bl hb, h.ex.trans hb, h.kp.trans (kept_ext hb)⟩
theorem WSt.base {W0 w0 w1 w : World} {b : Nat} {l : List UInt8} (h : WSt W0 w1 b l w) (k : Lib.OthersKept 5 (some b) w0 w1) : WSt W0 w0 b l w := ⟨h.bl, h.ex, k.trans h.kp⟩
theorem WSt.here {W0 w0 w : World} {b : Nat} {l : List UInt8} (h : WSt W0 w0 b l w) : WSt W0 w b l w := ⟨h.bl, h.ex, Lib.OthersKept.refl _ _ _⟩
theorem bytes_len (l : List UInt8) : (Lib.byteCells l).length = l.length := by simp [Lib.byteCells]
theorem wbyte_c {W0 w0 w : World} {b : Nat} {l : List UInt8} (x : UInt8) (c : Int) (hc : (x.toNat : Int) = c) (h : WSt W0 w0 b l w) (hl : l.length ≤ 1000000000) :
    Calls Tryz.prog 43 #[.pointer (some ⟨b, 0, none⟩), .int .u8 c] w fun e w' => e = .returned .nilIface ∧ WSt W0 w0 b (l ++ [x]) w' := by
  subst hc
  refine (Any.Builder_WriteByte_k bytLays bytX W0.heap.size b (Lib.byteCells l) (x.toNat : Int) w h.bl (by rw [bytes_len]; omega) (Below.size h.ex)).mono ?_
  rintro e w' ⟨rfl, h2, h3, h4⟩
  refine ⟨rfl, .inr ?_, Below.trans h.ex h3, h.kp.trans h4⟩
  have e : Lib.byteCells (l ++ [x]) = Lib.byteCells l ++ [.int .u8 (x.toNat : Int)] := by simp [Lib.byteCells]
  rw [e]
  exact h2
theorem wstr_c {W0 w0 w : World} {b : Nat} {l : List UInt8} (x : List UInt8) (h : WSt W0 w0 b l w) (hl : l.length + x.length ≤ 1000000000) :
    Calls Tryz.prog 45 #[.pointer (some ⟨b, 0, none⟩), .string ⟨x.toArray⟩] w fun e w' => e = .returned (.tuple #[.int .i64 x.length, .nilIface]) ∧ WSt W0 w0 b (l ++ x) w' := by
  have h1 := Any.Builder_WriteString_k bldLays bldX W0.heap.size b (Lib.byteCells l) ⟨x.toArray⟩ w h.bl (by have e2 : (⟨x.toArray⟩ : ByteArray).size = x.length := by simp [ByteArray.size]
                                                                                                            rw [bytes_len]
                                                                                                            omega) (Below.size h.ex)
  refine h1.mono ?_
  rintro e w' ⟨rfl, h2, h3, h4⟩
  refine ⟨by simp [ByteArray.size], .inr ?_, Below.trans h.ex h3, h.kp.trans h4⟩
  have e : Lib.byteCells (l ++ x) = Lib.byteCells l ++ Lib.strCells ⟨x.toArray⟩ := by simp [Lib.byteCells, Lib.strCells]
  rw [e]
  exact h2
end Go.Proofs.YtfbfkoeaihknoaaGreatDoor
