/- The contract of Turn. -/
import Derived.Test.YtpcefmopoceiiaaGreatDoorFaceF
import Derived.Maps.AppendAt
namespace Go.Proofs.YtpcefmopoceiiaaGreatDoor
set_option maxRecDepth 100000
open Go.RowKit Go.ChangeShapes Go.WideShapes Go.Joins Go.Shelf
attribute [local go_sem] Oper.semAt_some
/-- the cells of so many stitches of zeros -/
def stZeros (n : Nat) : Array Value := madeCells #[.int .u8 0, .bool false, .int .i64 0, .int .i64 0] (n * 4)
theorem run_make_sts (n : Nat) (hn : n ≤ 1000) (w : World) : (Instr.makeSlice 22 (.int .i64 0) (.int .i64 (n : Int))).run Tryz.prog w = .ok (.slice (some ⟨w.heap.size, 0, none⟩) 0 n) (w.alloc (.cells (stZeros n) 42)) := by
  obtain ⟨i0, hi, hz0, hz1, hz2⟩ := info_parts info_st
  have hr := run_make (P := Tryz.prog) w 22 42 i0 (.agg #[.int .u8 0, .bool false, .int .i64 0, .int .i64 0]) Tryz.underlying22 hi hz0 .i64 .i64 0 n (by omega) (by omega) (by rw [hz2]; omega) (by omega)
  simp only [Int.toNat_natCast, hz1] at hr
  exact hr
theorem made_own (w : World) (B n : Nat) (hB : B ≤ w.heap.size) (hn : n ≤ 1000) : (w.alloc (.cells (stZeros n) 42)).ownsRow B 42 4 (.slice (some ⟨w.heap.size, 0, none⟩) 0 n) 0 [] :=
  ⟨rfl, .inr ⟨w.heap.size, n, stZeros n, rfl, hB, heap_alloc_new w _, Nat.zero_le _, by unfold maxLen; omega, by simp [stZeros, madeCells], by simp⟩⟩
/-- a block of cells -/
def Blk (W : World) (B : Nat) (T : TypeId) (cs : Array Value) : Prop := W.heap[B]? = some (.cells cs T (0, 0))
theorem Blk.lt {W : World} {B : Nat} {T : TypeId} {cs : Array Value} (h : Blk W B T cs) : B < W.heap.size := (Array.getElem?_eq_some_iff.1 h).1
theorem Blk.kept {W W' : World} {row : Option Nat} {B : Nat} {T : TypeId} {cs : Array Value} (h : Blk W B T cs) (hg : W.grownBy W' row) (hne : some B ≠ row) : Blk W' B T cs := (hg.block B h.lt hne).trans h
theorem Blk.cell {W : World} {B : Nat} {T : TypeId} {cs : Array Value} (h : Blk W B T cs) (o : Nat) : W.cell? ⟨B, o, none⟩ = cs[o]? := cell_of_row _ B o _ T (0, 0) h
theorem Blk.frozen {W : World} {B : Nat} {T : TypeId} {cs : Array Value} (h : Blk W B T cs) (o : Nat) : W.frozen? ⟨B, o, none⟩ = false := by simp [World.frozen?, show W.heap[B]? = _ from h]
theorem Blk.own {β : Type} (B : Nat) (T : TypeId) (f : β → Array Value) : Own (fun s W => Blk W B T (f s)) := fun s X Y row hs hg hrow =>
  hs.kept hg (fun e' => by obtain ⟨o, ho, hc⟩ := hrow B e'.symm; rw [show X.heap[B]? = _ from hs] at ho; cases ho; cases hc)
theorem cells4_new (W : World) (a b c d : Value) (T : TypeId) (j : Nat) (u : Value) (h : [a, b, c, d][j]? = some u) : (W.alloc (.cells #[a, b, c, d] T)).cell? ((⟨W.heap.size, 0, none⟩ : Addr).add j) = some u := by
  have h1 : (W.alloc (.cells #[a, b, c, d] T)).heap[W.heap.size]? = some (.cells #[a, b, c, d] T) := heap_alloc_new W _
  have h2 : (⟨W.heap.size, 0, none⟩ : Addr).add j = ⟨W.heap.size, j, none⟩ := by simp [Addr.add]; intro h; omega
  rw [h2, cell_of_row _ W.heap.size j _ T (0, 0) h1, ← h]
  rcases j with _ | _ | _ | _ | j <;> rfl
theorem grown_set (W : World) (b o : Nat) (v : Value) : W.grownBy (W.setCell ⟨b, o, none⟩ v) (some b) :=
  ⟨rfl, rfl, rfl, (KeepsWalks.setCell W _ v).size, fun k _ hk => Below.heap_setCell _ _ _ k (fun e => hk (by rw [e]))⟩
theorem grown_trans {A B C : World} {r : Option Nat} (h : A.grownBy B r) (k : B.grownBy C r) : A.grownBy C r :=
  ⟨k.os.trans h.os, k.tape.trans h.tape, k.output.trans h.output, Nat.le_trans h.size k.size, fun b hb hr => (k.block b (Nat.lt_of_lt_of_le hb h.size) hr).trans (h.block b hb hr)⟩
/-- the frame of Turn in a round -/
def turnF (A : Option Addr) (m c g : Nat) (v7 v20 v21 : Value) : Act :=
  { tmps := #[.slice A m c, undef, .slice none 0 0, .int .i64 0, .int .i64 0, .pointer (some ⟨g + 1, 0, none⟩), undef, v7, undef, undef, .slice A m c,
      .int .i64 0, .int .i64 0, .bool false, undef, .slice A m c, .int .i64 m, .slice (some ⟨g, 0, none⟩) 0 m, .slice A m c, .func (.func 28) #[] #[.pointer (some ⟨g + 1 + 1, 0, none⟩)], v20, v21,
      undef, undef, undef, undef, undef, undef, undef, undef, undef, undef, undef, undef, undef, undef, undef, undef, undef, undef, undef, undef, undef, undef, undef, undef, undef, undef, undef, undef, undef], defers := [] }
/-- the cells that have come -/
def turnC (pre : List (Nat × OkS)) : List Value := (pre.map (fun x => otherSt x.2.1)).flatMap shSt.cells
def turnI (w : World) (A : Option Addr) (m c g : Nat) (pre : List (Nat × OkS)) (W : World) : Prop :=
  ((∃ v, Boxed W (g + 1) 22 v ∧ W.ownsRow w.heap.size 42 4 v pre.length (turnC pre) ∧ True) ∧ Boxed W (g + 1 + 1) 22 (.slice A m c)) ∧ Below w.heap.size w W
def turnA (A : Option Addr) (m c g : Nat) (x : Nat × OkS) (a' : Act) (W : World) : Prop :=
  ∃ Bx v, g + 1 + 1 < Bx ∧ v.ownBlock ≠ some Bx ∧ Boxed W (g + 1) 22 v ∧ Blk W Bx 42 #[.int .u8 x.2.1.k, .bool x.2.1.p, .int .i64 x.2.1.a, .int .i64 x.2.1.b] ∧
    a' = turnF A m c g (.pointer (some ⟨Bx, 0, none⟩)) (.int .i64 (x.1 : Int)) (.agg #[.int .u8 x.2.1.k, .bool x.2.1.p, .int .i64 x.2.1.a, .int .i64 x.2.1.b])
theorem ok_side (s : St) : ((s.k = 6 ∨ s.k = 7) ∧ fb1 s.k = 6 ∧ fsd s.k = true) ∨ (¬ (s.k = 6 ∨ s.k = 7) ∧ fb1 s.k = 0) := by
  by_cases h1 : s.k = 6 ∨ s.k = 7
  · refine .inl ⟨h1, by rw [fb1, if_pos h1], ?_⟩
    rcases h1 with e | e <;> rw [e] <;> decide
  · exact .inr ⟨h1, by rw [fb1, if_neg h1]⟩
theorem turnC_snoc (pre : List (Nat × OkS)) (x : Nat × OkS) : turnC (pre ++ [x]) = turnC pre ++ shSt.cells (otherSt x.2.1) := by simp [turnC]
theorem own_lt {W : World} {B k : Nat} {e : TypeId} {n : Nat} {v : Value} {xs : List Value} (h : W.ownsRow B e n v k xs) : v.ownBlock ≠ some W.heap.size := by
  rcases h.2 with ⟨rfl, _⟩ | ⟨g, cap, cur, rfl, _, hgb, _⟩
  · simp [Value.ownBlock]
  · intro e'
    have h1 : g = W.heap.size := by simpa [Value.ownBlock] using e'
    have h2 := (Array.getElem?_eq_some_iff.1 hgb).1
    omega
set_option maxRecDepth 100000 in
set_option maxHeartbeats 8000000 in
theorem turn_walk (m c : Nat) (A : Option Addr) (l : List St) (w : World) (hv : Vec shSt w A m l) (hn : m ≤ maxLen) (hby : Bytes l) (h0 : allE l = 0) :
    Calls Tryz.prog 5 #[.slice A m c] w (FaceR (turnL l) 0 w) := by
  obtain ⟨hl1, hl2, hl3⟩ := allE_e h0
  obtain ⟨zs, rfl⟩ := ok_lift hl2
  have hmm : m ≤ 1000 := by have := hv.1; omega
  have hmk := run_make_sts m hmm
  have HV := Lib.hid hv
  have HE := Lib.hid h0
  have HL := Lib.hid (show zs.length = m by have := hv.1; simpa using this)
  obtain ⟨i0, hi, hz0, hz1, hz2⟩ := info_parts info_st
  have HI := Lib.hid hi
  have HZ0 := Lib.hid hz0
  have HZ1 := Lib.hid hz1
  have HZ2 := Lib.hid hz2
  clear hv h0 hi hz0 hz1 hz2 hl1 hl2 hl3
  refine (callsIn_wide (n := 3)).1 ?_
  refine callsIn_of_wp_marks Tryz.func5 rfl trivial ?_ rfl
  simp only [Tryz.ntmps5, List.size_toArray, List.length_cons, List.length_nil, Nat.reduceAdd, Nat.reduceSub, Array.replicate_succ, Array.replicate_zero, List.push_toArray, List.append_toArray, List.nil_append, List.cons_append]
  gi_wp2_with (first
    | (refine ⟨trivial, ?_⟩; gi_at_call 12; refine (callsIn_wide.2 (sall_any m c A _ _ (HV.out.ext (by repeat (first | exact Ext.refl _ | assumption | refine Ext.alloc ?_ _ | refine Ext.drew ?_ | refine Ext.drewN ?_ _ | refine Ext.trans ?_ (by assumption)))) hn hby)).mono ?_; rintro e w1 ⟨rfl, hq1⟩; obtain ⟨hf1, hf2, hf3⟩ := hq1.facts; rw [HE.out])
    | (refine ⟨trivial, ?_⟩; gi_at_call 13; refine (callsIn_wide.2 (back_any A m c _)).mono ?_; rintro e w' ⟨rfl, rfl⟩))
  obtain ⟨W0, hW0⟩ : ∃ W0, ((w1.alloc (.cells (stZeros m) 42)).alloc (.cells #[.slice (some ⟨w1.heap.size, 0, none⟩) 0 m] 22)).alloc (.cells #[.slice A m c] 22) = W0 := ⟨_, rfl⟩
  have hsz : W0.heap.size = w1.heap.size + 3 := by rw [← hW0]; simp
  have hq2 : Ext w w1 := by repeat (first | exact Ext.refl _ | assumption | refine Ext.alloc ?_ _ | refine Ext.drew ?_ | refine Ext.drewN ?_ _ | refine Ext.trans ?_ (by assumption))
  have hle : w.heap.size ≤ w1.heap.size := Below.size hq2
  have hB0 : Below w.heap.size w W0 := by rw [← hW0]; exact ((Ext.alloc (Ext.alloc (Ext.alloc hq2 _) _) _))
  have bO : Boxed W0 (w1.heap.size + 1) 22 (.slice (some ⟨w1.heap.size, 0, none⟩) 0 m) := by
    rw [← hW0]
    have := (Boxed.new (w1.alloc (.cells (stZeros m) 42)) 22 (.slice (some ⟨w1.heap.size, 0, none⟩) 0 m)).alloc (.cells #[.slice A m c] 22)
    simpa using this
  have bL : Boxed W0 (w1.heap.size + 1 + 1) 22 (.slice A m c) := by
    rw [← hW0]
    have := Boxed.new ((w1.alloc (.cells (stZeros m) 42)).alloc (.cells #[.slice (some ⟨w1.heap.size, 0, none⟩) 0 m] 22)) 22 (.slice A m c)
    simpa using this
  have rO : W0.ownsRow w.heap.size 42 4 (.slice (some ⟨w1.heap.size, 0, none⟩) 0 m) 0 [] := by
    rw [← hW0]
    exact ((made_own w1 w.heap.size m hle hmm).alloc _).alloc _
  clear hf1 hf2 hf3 hq1 hmk
  rw [hW0]
  clear hW0
  generalize hg : w1.heap.size = g at *
  clear hg
  have HB0 := Lib.hid hB0
  refine wpIn_rangeFunc_ownH (F := Fence.wide) (n := 3) rfl (by omega) (gf := 28) (lb := #[.pointer (some ⟨g + 1 + 1, 0, none⟩)]) rfl trivial enters_back
    (back_stops 2 (g + 1 + 1) w.heap.size A m c zs (by omega) hmm W0 ⟨_, _, bL⟩ (HV.out.ext hB0) (fun hm0 b off e => by
      obtain ⟨b', off', e', hlt, _⟩ := HV.out.2 hm0
      rw [e] at e'
      cases e'
      exact hlt))
    (fun h k => KpB.trans h k) (KpB.put (by omega)) (Below.refl _ _) (fun _ => rfl)
    (turnI w A m c g) (fun _ _ _ => False)
    (OwnFrom.and (OwnFrom.and (Own.from (holdsRow_own w.heap.size (g + 1) 22 42 4 (fun pre : List (Nat × OkS) => pre.length) (fun pre => turnC pre) (fun _ _ => True)) _) (Own.from (boxed_own (g + 1 + 1) 22 (fun _ => .slice A m c)) _)) (ownFrom_below (by omega) (by omega)))
    (fun _ _ _ _ _ hs _ _ => hs)
    ⟨⟨⟨_, bO, rO, trivial⟩, bL⟩, hB0⟩
    (turnA A m c g)
    (fun x a' => Own.from (fun s A B row hs hg hr => by obtain ⟨Bx, v, h1, h2, h3, h4, h5⟩ := hs; exact ⟨Bx, v, h1, h2, boxed_own _ _ (fun _ : Unit => v) () A B row h3 hg hr, Blk.own _ _ (fun _ : Unit => _) () A B row h4 hg hr, h5⟩) _) ?assign ?body ?done ?stop
  case assign =>
    rintro l pre x W K ⟨⟨⟨v, hv, hrow, -⟩, hbl⟩, hB⟩ hK
    have hlt := hbl.lt
    unfold encB
    gi_wp2
    exact hK _ _ ((KeepsOthers.alloc _ _).from _) (KpB.ext hB.size ((Ext.refl _).alloc _)) ⟨⟨⟨v, hv.alloc _, hrow.alloc _, trivial⟩, hbl.alloc _⟩, hB.alloc (by have := hB.size; omega) _⟩ ⟨W.heap.size, v, hlt, own_lt hrow, hv.alloc _, heap_alloc_new W _, rfl⟩
  case body =>
    rintro l pre x a' W _ _ ⟨⟨⟨v, hv, hrow, -⟩, hbl⟩, hB⟩ ⟨Bx, v9, hBx, hne, hv9, hblk, rfl⟩ hpl
    obtain rfl : v9 = v := by
      have := (show W.heap[g + 1]? = _ from hv9).symm.trans hv
      simpa using this
    obtain ⟨i, ⟨⟨sk, sp, sa, sb⟩, hok⟩⟩ := x
    simp only at hblk
    have hk1 := inR_e (ok_kind hok)
    have hsides := ok_side ⟨sk, sp, sa, sb⟩
    have HC := Lib.hid (show ∀ W', Calls Tryz.prog 14 #[.int .u8 sk] W' fun e w' => e = .returned (.tuple #[.agg #[.string ⟨(flt sk).toArray⟩, .int .i64 (fa0 sk), .int .i64 (fa1 sk), .int .i64 (fb0 sk), .int .i64 (fb1 sk), .bool (fsd sk), .int .i64 (fus sk), .int .i64 (fmd sk)], .bool true]) ∧ Ext W' w' from fun W' => by
      have h9 := forms_both sk (by simp only at hk1; omega) (by simp only at hk1; omega) W'
      rw [formR, show kindB sk = true from ok_kind hok] at h9
      exact h9)
    have HT := Lib.hid (show otherSt ⟨sk, sp, sa, sb⟩ = ⟨sk, fsd sk && !sp, if sk = 6 ∨ sk = 7 then sb else sa, if sk = 6 ∨ sk = 7 then sa else sb⟩ from rfl)
    have HBK := Lib.hid hblk
    have HVB := Lib.hid hv
    have HRW := Lib.hid hrow
    have HBL := Lib.hid hbl
    have HBB := Lib.hid hB
    have x0 : W.cell? ⟨Bx, 0, none⟩ = some (.int .u8 sk) := hblk.cell 0
    have x1 : W.cell? ⟨Bx, 1, none⟩ = some (.bool sp) := hblk.cell 1
    have x2 : W.cell? ⟨Bx, 2, none⟩ = some (.int .i64 sa) := hblk.cell 2
    have x3 : W.cell? ⟨Bx, 3, none⟩ = some (.int .i64 sb) := hblk.cell 3
    have y1 := hblk.frozen 1
    have y2 := hblk.frozen 2
    have y3 := hblk.frozen 3
    have hltB := hblk.lt
    have z0 := hv.cell
    have z1 := hv.frozen
    have hltv := hv.lt
    have hneB : some Bx ≠ v9.ownBlock := fun e => hne e.symm
    have hpl2 : pre.length < 1000 := by have := HL.out; omega
    unfold turnF
    clear hv9 hv hrow hbl hB hblk hk1
    generalize fus sk = f6 at *
    generalize fmd sk = f7 at *
    generalize fa0 sk = f1 at *
    generalize fa1 sk = f2 at *
    generalize fb0 sk = f3 at *
    generalize (flt sk) = f0 at *
    rcases hsides with ⟨h1, h2, h3⟩ | ⟨h1, h2⟩
    · have HTT := Lib.hid h1
      rw [if_pos h1, if_pos h1, h3] at HT
      simp only at h2 h3
      rw [h2, h3] at HC
      clear h1 h2 h3
      gi_wp2_with (first
        | (refine ⟨trivial, ?_⟩; gi_at_call 14; refine (CallsIn.inRound l (callsIn_wide.2 (HC.out _))).mono ?_; rintro e w5 ⟨rfl, hq5⟩; have HQ5 := Lib.hid (show Ext W w5 from hq5); obtain ⟨hf1, hf2, hf3⟩ := hq5.facts; clear hq5; have u1 := hf3 Bx hltB; have u2 := hf3 _ hltv; have u3 : ¬ (Bx = w5.heap.size) := (by omega); have u4 : ¬ (w5.heap.size = Bx) := (by omega); have u5 : ¬ (g + 1 = w5.heap.size) := (by omega); have u6 : ¬ (g + 1 = Bx) := (by omega); have u7 : ¬ (Bx = g + 1) := (by omega))
        | (gi_at_builtin; go_loud (obtain ⟨WE, hWE⟩ : ∃ WE, ((((w5.setCell ⟨Bx, 1, none⟩ (.bool (!sp))).setCell ⟨Bx, 2, none⟩ (.int .i64 sb)).setCell ⟨Bx, 3, none⟩ (.int .i64 sa)).alloc (.cells #[.string ⟨f0.toArray⟩, .int .i64 f1, .int .i64 f2, .int .i64 f3, .int .i64 6, .bool true, .int .i64 f6, .int .i64 f7] 45)) = WE := ⟨_, rfl⟩; have hgw : W.grownBy WE (some Bx) := (by rw [← hWE]; exact grown_trans (grown_trans (grown_trans (grown_trans (But.of_ext HQ5.out _) (grown_set _ _ _ _)) (grown_set _ _ _ _)) (grown_set _ _ _ _)) (World.grownBy_alloc _ _ _)); have hzz : WE.heap.size = w5.heap.size + 1 := (by rw [← hWE]; simp); rw [hWE]; clear hWE; have hrE := HRW.out.kept hgw (.inr (fun e => hneB e.symm)); have hvE := HVB.out.kept hgw (by simp; omega); have hbE := HBL.out.kept hgw (by simp; omega); have hzE := hgw.size; refine wpListIn_append_own _ rfl _ _ 22 rfl w.heap.size 42 i0 (.agg #[.int .u8 0, .bool false, .int .i64 0, .int .i64 0]) 4 24 Tryz.underlying22 HI.out HZ0.out HZ1.out HZ2.out rfl (by decide) _ _ _ rfl (hrE.alloc _) ⟨w5.heap.size + 1, 0, none⟩ 1 1 [.int .u8 sk, .bool (!sp), .int .i64 sb, .int .i64 sa] rfl rfl (fun j u hju => (by rw [← hzz]; exact cells4_new _ _ _ _ _ _ j u hju)) (by simp [Value.oneCell']) (by unfold maxLen; omega) (by omega) (by have := HBB.out.size; simp; omega) ?_; intro v' w7 hown' hgrow _; obtain ⟨g', cap', rfl⟩ := ownsRow_succ hown'; obtain ⟨hv1, hv2, hr2, hk2, hb2⟩ := hvE.appended (by decide) hrE (by have := HBB.out.size; omega) (by have := HBB.out.size; omega) hown' hgrow; have hc1 := hv1.cell; have hf1 := hv1.frozen; have hbE2 := (hbE.alloc (.cells #[.int .u8 sk, .bool (!sp), .int .i64 sb, .int .i64 sa] 42)).kept hgrow (hbE.not_row (by decide) hrE))))
      refine ⟨((KeepsOthers.of_grownBy hgw (fun j o ej hj => by cases ej; rw [show W.heap[Bx]? = _ from HBK.out] at hj; cases hj; rfl)).trans hk2).from _, ⟨((Below.refl w.heap.size W).grown hgw HBB.out.size (fun j ej => by cases ej; omega)).trans hb2, fun cs T f e9 => ?_⟩, ⟨⟨_, hv2, ?_, trivial⟩, hbE2.other (by omega) _⟩, (HBB.out.grown hgw HBB.out.size (fun j ej => by cases ej; omega)).trans hb2⟩
      · have e8 := (show W.heap[g + 1 + 1]? = _ from HBL.out).symm.trans e9
        cases e8
        exact hbE2.other (by omega) _
      · rw [turnC_snoc, HT.out]
        simpa [shSt, stc] using hr2
    · simp only at h2
      rw [if_neg h1, if_neg h1] at HT
      rw [h2] at HC
      clear h1 h2
      cases hs : fsd sk
      · rw [hs] at HC HT
        clear hs
        gi_wp2_with (first
          | (refine ⟨trivial, ?_⟩; gi_at_call 14; refine (CallsIn.inRound l (callsIn_wide.2 (HC.out _))).mono ?_; rintro e w5 ⟨rfl, hq5⟩; have HQ5 := Lib.hid (show Ext W w5 from hq5); obtain ⟨hf1, hf2, hf3⟩ := hq5.facts; clear hq5; have u1 := hf3 Bx hltB; have u2 := hf3 _ hltv; have u3 : ¬ (Bx = w5.heap.size) := (by omega); have u4 : ¬ (w5.heap.size = Bx) := (by omega); have u5 : ¬ (g + 1 = w5.heap.size) := (by omega); have u6 : ¬ (g + 1 = Bx) := (by omega); have u7 : ¬ (Bx = g + 1) := (by omega))
          | (gi_at_builtin; go_loud (obtain ⟨WE, hWE⟩ : ∃ WE, ((w5.setCell ⟨Bx, 1, none⟩ (.bool false)).alloc (.cells #[.string ⟨f0.toArray⟩, .int .i64 f1, .int .i64 f2, .int .i64 f3, .int .i64 0, .bool false, .int .i64 f6, .int .i64 f7] 45)) = WE := ⟨_, rfl⟩; have hgw : W.grownBy WE (some Bx) := (by rw [← hWE]; exact grown_trans (grown_trans (But.of_ext HQ5.out _) (grown_set _ _ _ _)) (World.grownBy_alloc _ _ _)); have hzz : WE.heap.size = w5.heap.size + 1 := (by rw [← hWE]; simp); rw [hWE]; clear hWE; have hrE := HRW.out.kept hgw (.inr (fun e => hneB e.symm)); have hvE := HVB.out.kept hgw (by simp; omega); have hbE := HBL.out.kept hgw (by simp; omega); have hzE := hgw.size; refine wpListIn_append_own _ rfl _ _ 22 rfl w.heap.size 42 i0 (.agg #[.int .u8 0, .bool false, .int .i64 0, .int .i64 0]) 4 24 Tryz.underlying22 HI.out HZ0.out HZ1.out HZ2.out rfl (by decide) _ _ _ rfl (hrE.alloc _) ⟨w5.heap.size + 1, 0, none⟩ 1 1 [.int .u8 sk, .bool false, .int .i64 sa, .int .i64 sb] rfl rfl (fun j u hju => (by rw [← hzz]; exact cells4_new _ _ _ _ _ _ j u hju)) (by simp [Value.oneCell']) (by unfold maxLen; omega) (by omega) (by have := HBB.out.size; simp; omega) ?_; intro v' w7 hown' hgrow _; obtain ⟨g', cap', rfl⟩ := ownsRow_succ hown'; obtain ⟨hv1, hv2, hr2, hk2, hb2⟩ := hvE.appended (by decide) hrE (by have := HBB.out.size; omega) (by have := HBB.out.size; omega) hown' hgrow; have hc1 := hv1.cell; have hf1 := hv1.frozen; have hbE2 := (hbE.alloc (.cells #[.int .u8 sk, .bool false, .int .i64 sa, .int .i64 sb] 42)).kept hgrow (hbE.not_row (by decide) hrE))))
        refine ⟨((KeepsOthers.of_grownBy hgw (fun j o ej hj => by cases ej; rw [show W.heap[Bx]? = _ from HBK.out] at hj; cases hj; rfl)).trans hk2).from _, ⟨((Below.refl w.heap.size W).grown hgw HBB.out.size (fun j ej => by cases ej; omega)).trans hb2, fun cs T f e9 => ?_⟩, ⟨⟨_, hv2, ?_, trivial⟩, hbE2.other (by omega) _⟩, (HBB.out.grown hgw HBB.out.size (fun j ej => by cases ej; omega)).trans hb2⟩
        · have e8 := (show W.heap[g + 1 + 1]? = _ from HBL.out).symm.trans e9
          cases e8
          exact hbE2.other (by omega) _
        · rw [turnC_snoc, HT.out]
          simpa [shSt, stc] using hr2
      · rw [hs] at HC HT
        clear hs
        gi_wp2_with (first
          | (refine ⟨trivial, ?_⟩; gi_at_call 14; refine (CallsIn.inRound l (callsIn_wide.2 (HC.out _))).mono ?_; rintro e w5 ⟨rfl, hq5⟩; have HQ5 := Lib.hid (show Ext W w5 from hq5); obtain ⟨hf1, hf2, hf3⟩ := hq5.facts; clear hq5; have u1 := hf3 Bx hltB; have u2 := hf3 _ hltv; have u3 : ¬ (Bx = w5.heap.size) := (by omega); have u4 : ¬ (w5.heap.size = Bx) := (by omega); have u5 : ¬ (g + 1 = w5.heap.size) := (by omega); have u6 : ¬ (g + 1 = Bx) := (by omega); have u7 : ¬ (Bx = g + 1) := (by omega))
          | (gi_at_builtin; go_loud (obtain ⟨WE, hWE⟩ : ∃ WE, ((w5.setCell ⟨Bx, 1, none⟩ (.bool (!sp))).alloc (.cells #[.string ⟨f0.toArray⟩, .int .i64 f1, .int .i64 f2, .int .i64 f3, .int .i64 0, .bool true, .int .i64 f6, .int .i64 f7] 45)) = WE := ⟨_, rfl⟩; have hgw : W.grownBy WE (some Bx) := (by rw [← hWE]; exact grown_trans (grown_trans (But.of_ext HQ5.out _) (grown_set _ _ _ _)) (World.grownBy_alloc _ _ _)); have hzz : WE.heap.size = w5.heap.size + 1 := (by rw [← hWE]; simp); rw [hWE]; clear hWE; have hrE := HRW.out.kept hgw (.inr (fun e => hneB e.symm)); have hvE := HVB.out.kept hgw (by simp; omega); have hbE := HBL.out.kept hgw (by simp; omega); have hzE := hgw.size; refine wpListIn_append_own _ rfl _ _ 22 rfl w.heap.size 42 i0 (.agg #[.int .u8 0, .bool false, .int .i64 0, .int .i64 0]) 4 24 Tryz.underlying22 HI.out HZ0.out HZ1.out HZ2.out rfl (by decide) _ _ _ rfl (hrE.alloc _) ⟨w5.heap.size + 1, 0, none⟩ 1 1 [.int .u8 sk, .bool (!sp), .int .i64 sa, .int .i64 sb] rfl rfl (fun j u hju => (by rw [← hzz]; exact cells4_new _ _ _ _ _ _ j u hju)) (by simp [Value.oneCell']) (by unfold maxLen; omega) (by omega) (by have := HBB.out.size; simp; omega) ?_; intro v' w7 hown' hgrow _; obtain ⟨g', cap', rfl⟩ := ownsRow_succ hown'; obtain ⟨hv1, hv2, hr2, hk2, hb2⟩ := hvE.appended (by decide) hrE (by have := HBB.out.size; omega) (by have := HBB.out.size; omega) hown' hgrow; have hc1 := hv1.cell; have hf1 := hv1.frozen; have hbE2 := (hbE.alloc (.cells #[.int .u8 sk, .bool (!sp), .int .i64 sa, .int .i64 sb] 42)).kept hgrow (hbE.not_row (by decide) hrE))))
        refine ⟨((KeepsOthers.of_grownBy hgw (fun j o ej hj => by cases ej; rw [show W.heap[Bx]? = _ from HBK.out] at hj; cases hj; rfl)).trans hk2).from _, ⟨((Below.refl w.heap.size W).grown hgw HBB.out.size (fun j ej => by cases ej; omega)).trans hb2, fun cs T f e9 => ?_⟩, ⟨⟨_, hv2, ?_, trivial⟩, hbE2.other (by omega) _⟩, (HBB.out.grown hgw HBB.out.size (fun j ej => by cases ej; omega)).trans hb2⟩
        · have e8 := (show W.heap[g + 1 + 1]? = _ from HBL.out).symm.trans e9
          cases e8
          exact hbE2.other (by omega) _
        · rw [turnC_snoc, HT.out]
          simpa [shSt, stc] using hr2

  case done =>
    rintro D ys W hD rfl ⟨⟨⟨v, hv, hrow, -⟩, hbl⟩, hB⟩ hK
    have hc := hv.cell
    have HT9 := Lib.hid (show turnC (upB zs zs.length) = (turnL (zs.map (·.1))).flatMap shSt.cells by rw [turnC, upB_all])
    obtain ⟨A9, c9, rfl, hv9, -⟩ := own_vecB (S := shSt) (L := turnL (zs.map (·.1))) (show OwnV shSt W w.heap.size 42 v m (turnL (zs.map (·.1))) by
      have h9 := hrow
      rw [upB_len, HT9.out, HL.out] at h9
      exact h9)
    gi_wp2
    refine ⟨by simp, .inl ⟨_, _, rfl, run_takeDeferred hK, ?_⟩⟩
    refine ⟨.tuple #[.slice A9 m c9, .int .i64 0], by simp [results, Tryz.f5, go_sem], ?_⟩
    have h8 : OwnV shSt (W.putObj D (.deferred none)) w.heap.size 42 (.slice A9 m c9) m (turnL (zs.map (·.1))) := by
      have h9 := ownsRow_putObj hrow (.deferred none) hK rfl
      rw [upB_len, HT9.out, HL.out] at h9
      exact h9
    exact ⟨A9, m, c9, rfl, hB.trans (belowK_b (w := w) (Nat.le_refl _) W D _ _ (by omega) hK rfl rfl), Vec.of_own h8⟩
  case stop =>
    rintro D c pre W _ _ h _
    exact h.elim
/-- Turn of a valid list -/
theorem turn_ok (m c : Nat) (A : Option Addr) (l : List St) (w : World) (hv : Vec shSt w A m l) (h0 : allE l = 0) : Calls Tryz.prog 5 #[.slice A m c] w (FaceR (turnL l) 0 w) :=
  turn_walk m c A l w hv (by have := hv.1; have := (allE_e h0).1; unfold maxLen; omega) (fun j hj => by have h1 := inR_e (ok_kind (allB_at (allE_e h0).2.1 hj)); omega) h0
end Go.Proofs.YtpcefmopoceiiaaGreatDoor
