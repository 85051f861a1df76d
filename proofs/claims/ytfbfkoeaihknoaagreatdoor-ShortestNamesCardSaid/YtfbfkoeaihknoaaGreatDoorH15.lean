/- Text of stitches. -/
import Derived.Test.YtfbfkoeaihknoaaGreatDoorH14
import Derived.Test.YtfbfkoeaihknoaaGreatDoorH04
import Derived.Laws.CopyOwn
namespace Go.Proofs.YtfbfkoeaihknoaaGreatDoor
set_option maxRecDepth 100000
open Go.RowKit
/-- what Text returns -/
def textG (l : List St) : List UInt8 := if allE l = 0 then textL l else []
set_option maxHeartbeats 2000000 in
theorem stext_any (n c : Nat) (A : Option Addr) (l : List St) (w : World) (hl : Vec shSt w A n l) (hn : n ≤ maxLen) (hby : Bytes l) (hg : Glob w) :
    Calls Tryz.prog 44 #[.slice A n c] w fun e w' => e = .returned (.tuple #[.string ⟨(textG l).toArray⟩, .int .i64 (allE l)]) ∧ Ext w w' := by
  have HX := Lib.hid hl
  have HG := Lib.hid hg
  have HS := Lib.hid (sall_any n c A l w hl hn hby)
  by_cases h0 : allE l = 0
  · obtain ⟨h1, h2, -, -⟩ := allE_e h0
    have hs := text_short h0
    have HA := Lib.hid h0
    have h3 : n ≤ 200 := by rw [← hl.1]; exact h1
    have HT := Lib.hid (fun (w' : World) (hb : Ext w w') => text_any n c A l w' (hl.ext hb) h3 h2 (hg.ext hb))
    have HTG := Lib.hid (show textG l = textL l by rw [textG, if_pos h0])
    rw [textG, if_pos h0]
    clear hl hg hby h0 h1 h2
    generalize textL l = T at *
    have hs2 : ¬ ((3000 : Int) < (T.length : Int)) := by omega
    go_enter Tryz.func44, Tryz.ntmps44
    go_wp2_with (first
      | (go_at_call 62; ((with_reducible refine HS.out.mono ?_); rintro e w1 ⟨rfl, hq1⟩; rw [HA.out]))
      | (go_at_call 63; ((with_reducible refine (HT.out _ (by repeat (first | exact Ext.refl _ | assumption | refine Ext.alloc ?_ _ | refine Ext.drew ?_ | refine Ext.drewN ?_ _ | refine Ext.trans ?_ (by assumption)))).mono ?_); rintro e w2 ⟨rfl, hq2⟩)))
    go_ret2
    exact ⟨by rw [HA.out]; rfl, by repeat (first | exact Ext.refl _ | assumption | refine Ext.alloc ?_ _ | refine Ext.drew ?_ | refine Ext.drewN ?_ _ | refine Ext.trans ?_ (by assumption))⟩
  · rw [textG, if_neg h0]
    obtain ⟨x, hx⟩ : ∃ x, allE l = x := ⟨_, rfl⟩
    rw [hx] at h0
    have HA := Lib.hid hx
    have hb : (x != 0) = true := by simpa using h0
    clear hl hg hby h0 hx
    go_enter Tryz.func44, Tryz.ntmps44
    go_wp2_with (first
      | (go_at_call 62; ((with_reducible refine HS.out.mono ?_); rintro e w1 ⟨rfl, hq1⟩; rw [HA.out])))
    go_ret2
    exact ⟨by rw [HA.out]; rfl, by repeat (first | exact Ext.refl _ | assumption | refine Ext.alloc ?_ _ | refine Ext.drew ?_ | refine Ext.drewN ?_ _ | refine Ext.trans ?_ (by assumption))⟩
end Go.Proofs.YtfbfkoeaihknoaaGreatDoor
/- Slices that a call makes at once, and copies into them; elements of any size. -/
namespace Go.Proofs.YtfbfkoeaihknoaaGreatDoor
set_option maxRecDepth 100000
open Go.RowKit Go.ChangeShapes Go.WideShapes Go.Joins
section
variable {P : Program} {ops : Array Oper} {rest : List Oper} {o : Oper} {a : Act} {K : Act → World → Prop} {Q : Exit → Act → World → Prop} {E : Prop} {w wx : World}
/-- a slice made at once -/
theorem wp_make_own (T e : TypeId) (z : Value) (size bytes : Nat) {l : Operand} (n B : Nat) (hop : o.op = .makeSlice T l l) (ht : P.underlying T = some (.slice e)) (hinfo : (P.info? e).map (fun i => (i.zero, i.size, i.bytes)) = some (some z, size, bytes))
    (hl : a.eval l = .int .i64 (n : Int)) (hn : n ≤ 1000000) (hby : bytes ≤ 1000) (hB : B ≤ wx.heap.size)
    (h : ∀ w1, w1.ownsRow B e size (.slice (some ⟨wx.heap.size, 0, none⟩) n n) n (madeCells z.cells (n * size)).toList → Ext wx w1 → wx.heap.size < w1.heap.size → K (a.put o.dst (.slice (some ⟨wx.heap.size, 0, none⟩) n n)) w1) : o.wp P a wx K Q := by
  obtain ⟨i0, hi, hz0, hz1, hz2⟩ := info_parts hinfo
  obtain ⟨w', hrun, r1, r2⟩ := run_make_full (P := P) wx B T e i0 z size ht hi hz0 hz1 .i64 .i64 n (by rw [hz2]; have := Nat.mul_le_mul hby hn; omega) (by unfold maxLen; omega) hB
  unfold Oper.wp
  simp [execOp, hop, hl, hrun, Result.andThen]
  refine h w' r1 (But.ext_none r2) ?_
  obtain ⟨_, h2⟩ := own_blk r1 wx.heap.size (by simp [Value.ownBlock])
  exact h2
theorem wpList_make_own (T e : TypeId) (z : Value) (size bytes : Nat) {l : Operand} (n B : Nat) (hgd : o.guard = none) (hop : o.op = .makeSlice T l l) (ht : P.underlying T = some (.slice e)) (hinfo : (P.info? e).map (fun i => (i.zero, i.size, i.bytes)) = some (some z, size, bytes))
    (hl : a.eval l = .int .i64 (n : Int)) (hn : n ≤ 1000000) (hby : bytes ≤ 1000) (hB : B ≤ wx.heap.size)
    (h : ∀ w1, Hid (w1.ownsRow B e size (.slice (some ⟨wx.heap.size, 0, none⟩) n n) n (madeCells z.cells (n * size)).toList) → Hid (Ext wx w1) → wx.heap.size < w1.heap.size → wpList P ops Q rest (a.put o.dst (.slice (some ⟨wx.heap.size, 0, none⟩) n n)) w1) : wpList P ops Q (o :: rest) a wx :=
  wpList_plain hgd fun _ hK => wp_make_own T e z size bytes n B hop ht hinfo hl hn hby hB fun w' h1 h2 h3 => hK _ _ (h w' h1 h2 h3)
theorem setCells_row (g : Nat) (t : TypeId) : ∀ (vs : List Value) (off : Nat) (w : World) (cur : Array Value), w.heap[g]? = some (.cells cur t (0, 0)) → ∃ cur', (w.setCells g off vs).heap[g]? = some (.cells cur' t (0, 0)) ∧ cur'.size = cur.size := by
  intro vs
  induction vs with
  | nil => intro off w cur h; exact ⟨cur, h, rfl⟩
  | cons v r ih =>
    intro off w cur h
    have h1 := heap_setCell_same w g off cur t v h
    obtain ⟨cur', h2, h3⟩ := ih (off + 1) _ _ h1
    exact ⟨cur', h2, by rw [h3]; simp⟩
theorem setCells_but (g : Nat) : ∀ (vs : List Value) (off : Nat) (w : World), But (some g) w (w.setCells g off vs) := by
  intro vs
  induction vs with
  | nil => intro off w; exact But.refl _ _
  | cons v r ih =>
    intro off w
    exact ((But.refl (some g) w).own (p := ⟨g, off, none⟩) rfl v).trans (ih (off + 1) _)
/-- a row written whole -/
theorem setCells_whole {g : Nat} {t : TypeId} {w : World} {cur : Array Value} {cs : List Value} (h : w.heap[g]? = some (.cells cur t (0, 0))) (hl : cs.length = cur.size) : (w.setCells g 0 cs).heap[g]? = some (.cells cs.toArray t (0, 0)) := by
  obtain ⟨cur', h1, h2⟩ := setCells_row g t cs 0 w cur h
  have hex : ∀ j, j < cs.length → (w.cell? ⟨g, 0 + j, none⟩).isSome = true := fun j hj => by
    rw [Nat.zero_add, cell_of_row w g j cur t (0, 0) h, Array.getElem?_eq_getElem (by omega)]
    rfl
  have e : cur' = cs.toArray := by
    apply Array.ext
    · simp [h2, hl]
    · intro j hj hj2
      have hj3 : j < cs.length := by simpa using hj2
      have := World.cell?_setCells_in g cs 0 w hex j hj3
      rw [Nat.zero_add, cell_of_row _ g j cur' t (0, 0) h1, Array.getElem?_eq_getElem hj] at this
      simpa using this
  rw [h1, e]
theorem run_copy_any (w : World) (dT sT ty elem : TypeId) (size : Nat) (dp sp : Option Addr) (n dc sc : Nat) (cs : List Value) (g : Nat) (hu : P.underlying dT = some (.slice elem)) (hs : (P.info? elem).map (·.size) = some size) (hn : cs.length = n * size)
    (hpos : 0 < n → dp = some ⟨g, 0, none⟩ ∧ ∃ ad, sp = some ad ∧ ∀ j v, cs[j]? = some v → w.cell? (ad.add j) = some v)
    (hc : ∀ j, j < cs.length → (w.cell? ⟨g, j, none⟩).isSome = true) (hf : ∀ j, j < cs.length → w.frozen? ⟨g, j, none⟩ = false) (h1 : ∀ v ∈ cs, v.oneCell' = true) :
    (Builtin.copy_ #[dT, sT] ty #[.slice dp n dc, .slice sp n sc]).run P w = .ok (goInt n) (w.setCells g 0 cs) := by
  cases hq : P.info? elem with
  | none => simp [hq] at hs
  | some i =>
    have hi : i.size = size := by simpa [hq] using hs
    rcases Nat.eq_zero_or_pos n with h0 | h0
    · subst h0
      obtain rfl : cs = [] := List.eq_nil_of_length_eq_zero (by simpa using hn)
      have hl : ∀ (x : Addr), (loadCells x 0).run P w = .ok #[] w := fun x => by simpa using run_loadCells_list (P := P) w x [] (by simp)
      cases dp <;> cases sp <;> simp [Builtin.copy_, run_underlying hu, Builtin.lenOf, Builtin.firstCells, sizeOf, typeInfo, hq, storeCells, hl, World.setCells]
    · obtain ⟨rfl, ad, rfl, hsrc⟩ := hpos h0
      have hl := run_loadCells_list (P := P) w ad cs hsrc
      have hst := run_storeCells_cells (P := P) g 0 cs 0 w (by simpa using hc) (by simpa using hf) h1
      rw [hn] at hl
      simp [Builtin.copy_, run_underlying hu, Builtin.lenOf, Builtin.firstCells, sizeOf, typeInfo, hq, hi, hl, hst]
/-- as many elements copied as the row has that the call has made -/
theorem wp_copy_own (e : TypeId) (size : Nat) {d s : Operand} (dT sT : TypeId) {g n c B : Nat} {A : Option Addr} {xs cs : List Value} (ho : o.op = .call { callee := .builtin .copy, args := #[d, s], argTypes := #[dT, sT] })
    (hu : P.underlying dT = some (.slice e)) (hsz : (P.info? e).map (·.size) = some size) (hd : a.eval d = .slice (some ⟨g, 0, none⟩) n n) (hs : a.eval s = .slice A n c)
    (hown : wx.ownsRow B e size (.slice (some ⟨g, 0, none⟩) n n) n xs) (hl : cs.length = n * size) (hA : 0 < n → ∃ ad, A = some ad ∧ ∀ j u, cs[j]? = some u → wx.cell? (ad.add j) = some u) (h1 : ∀ v ∈ cs, v.oneCell' = true)
    (h : ∀ w1, w1.ownsRow B e size (.slice (some ⟨g, 0, none⟩) n n) n cs → But (some g) wx w1 → K (a.put o.dst (goInt n)) w1) : o.wp P a wx K Q := by
  have hrow : ∃ cur, B ≤ g ∧ wx.heap[g]? = some (.cells cur e (0, 0)) ∧ n ≤ maxLen ∧ cur.size = n * size := by
    rcases hown.2 with ⟨h', _⟩ | ⟨g', cap', cur, h', hb, hg, hnc, hcm, hcs, _⟩
    · simp at h'
    · simp only [Value.slice.injEq, Option.some.injEq, Addr.mk.injEq, and_true, true_and] at h'
      obtain ⟨rfl, rfl⟩ := h'
      exact ⟨cur, hb, hg, hcm, hcs⟩
  obtain ⟨cur, hb, hg, hm, hcs⟩ := hrow
  have hrun := run_copy_any (P := P) wx dT sT o.type e size (some ⟨g, 0, none⟩) A n n c cs g hu hsz hl (fun hn => ⟨rfl, hA hn⟩)
    (fun j hj => by rw [cell_of_row wx g j cur e (0, 0) hg, Array.getElem?_eq_getElem (by omega)]; rfl) (fun j _ => World.ownsRow.frozenAt hown j) h1
  unfold Oper.wp
  simp [execOp, ho, resolve, invoke, builtin, hd, hs, hrun, Result.andThen]
  refine h _ ⟨hl, .inr ⟨g, n, cs.toArray, rfl, hb, setCells_whole hg (by omega), Nat.le_refl _, hm, by simpa using hl, ?_⟩⟩ (setCells_but g cs 0 wx)
  rw [List.take_of_length_le (by simp; omega)]
theorem wpList_copy_all (e : TypeId) (size : Nat) {d s : Operand} (dT sT : TypeId) {g n c B : Nat} {A : Option Addr} {xs cs : List Value} (hgd : o.guard = none) (ho : o.op = .call { callee := .builtin .copy, args := #[d, s], argTypes := #[dT, sT] })
    (hu : P.underlying dT = some (.slice e)) (hsz : (P.info? e).map (·.size) = some size) (hd : a.eval d = .slice (some ⟨g, 0, none⟩) n n) (hs : a.eval s = .slice A n c)
    (hown : wx.ownsRow B e size (.slice (some ⟨g, 0, none⟩) n n) n xs) (hl : cs.length = n * size) (hA : 0 < n → ∃ ad, A = some ad ∧ ∀ j u, cs[j]? = some u → wx.cell? (ad.add j) = some u) (h1 : ∀ v ∈ cs, v.oneCell' = true)
    (h : ∀ w1, Hid (w1.ownsRow B e size (.slice (some ⟨g, 0, none⟩) n n) n cs) → Hid (But (some g) wx w1) → wpList P ops Q rest (a.put o.dst (goInt n)) w1) : wpList P ops Q (o :: rest) a wx :=
  wpList_plain hgd fun _ hK => wp_copy_own e size dT sT ho hu hsz hd hs hown hl hA h1 fun w' g1 g2 => hK _ _ (h w' g1 g2)
theorem step_copy_all (e : TypeId) (size : Nat) {d s : Operand} (dT sT : TypeId) {g n c B : Nat} {A : Option Addr} {xs cs : List Value} (hgd : o.guard = none) (ho : o.op = .call { callee := .builtin .copy, args := #[d, s], argTypes := #[dT, sT] })
    (hu : P.underlying dT = some (.slice e)) (hsz : (P.info? e).map (·.size) = some size) (hd : a.eval d = .slice (some ⟨g, 0, none⟩) n n) (hs : a.eval s = .slice A n c)
    (hown : wx.ownsRow B e size (.slice (some ⟨g, 0, none⟩) n n) n xs) (hl : cs.length = n * size) (hA : 0 < n → ∃ ad, A = some ad ∧ ∀ j u, cs[j]? = some u → wx.cell? (ad.add j) = some u) (h1 : ∀ v ∈ cs, v.oneCell' = true)
    (h : ∀ w1, Hid (w1.ownsRow B e size (.slice (some ⟨g, 0, none⟩) n n) n cs) → Hid (But (some g) wx w1) → K (a.put o.dst (goInt n)) w1) :
    if Region.wanted o (yielded ops a.tmps) = true then Oper.wp P o a wx K Q else E := by
  have hw : Region.wanted o (yielded ops a.tmps) = true := by simp [Region.wanted, hgd]
  rw [if_pos hw]
  exact wp_copy_own e size dT sT ho hu hsz hd hs hown hl hA h1 h
end
end Go.Proofs.YtfbfkoeaihknoaaGreatDoor
/- A copy of some elements into a part of a row. -/
namespace Go.Proofs.YtfbfkoeaihknoaaGreatDoor
set_option maxRecDepth 100000
open Go.RowKit Go.ChangeShapes Go.WideShapes Go.Joins
section
variable {P : Program}
theorem run_copy_part (w : World) (dT sT ty elem : TypeId) (size m : Nat) (g o : Nat) (ad : Addr) (dn dc sn sc : Nat) (cs : List Value) (hu : P.underlying dT = some (.slice elem)) (hs : (P.info? elem).map (·.size) = some size) (hm : m = sn.min dn) (hn : cs.length = m * size)
    (hsrc : ∀ j v, cs[j]? = some v → w.cell? (ad.add j) = some v)
    (hc : ∀ j, j < cs.length → (w.cell? ⟨g, o + j, none⟩).isSome = true) (hf : ∀ j, j < cs.length → w.frozen? ⟨g, o + j, none⟩ = false) (h1 : ∀ v ∈ cs, v.oneCell' = true) :
    (Builtin.copy_ #[dT, sT] ty #[.slice (some ⟨g, o, none⟩) dn dc, .slice (some ad) sn sc]).run P w = .ok (goInt m) (w.setCells g o cs) := by
  cases hq : P.info? elem with
  | none => simp [hq] at hs
  | some i =>
    have hi : i.size = size := by simpa [hq] using hs
    have hl := run_loadCells_list (P := P) w ad cs hsrc
    have hst := run_storeCells_cells (P := P) g o cs 0 w (by simpa using hc) (by simpa using hf) h1
    rw [hn] at hl
    subst hm
    simp [Builtin.copy_, run_underlying hu, Builtin.lenOf, Builtin.firstCells, sizeOf, typeInfo, hq, hi, hl, hst]
end
end Go.Proofs.YtfbfkoeaihknoaaGreatDoor
/- A copy into the middle of a row that the call has made. -/
namespace Go.Proofs.YtfbfkoeaihknoaaGreatDoor
set_option maxRecDepth 100000
open Go.RowKit Go.ChangeShapes Go.WideShapes Go.Joins
section
variable {P : Program} {ops : Array Oper} {rest : List Oper} {o : Oper} {a : Act} {K : Act → World → Prop} {Q : Exit → Act → World → Prop} {E : Prop} {w wx : World}
/-- a row of which a part is written anew -/
theorem setCells_mid {g : Nat} {t : TypeId} {w : World} {A X B cs : List Value} (h : w.heap[g]? = some (.cells (A ++ X ++ B).toArray t (0, 0))) (hl : cs.length = X.length) :
    (w.setCells g A.length cs).heap[g]? = some (.cells (A ++ cs ++ B).toArray t (0, 0)) := by
  obtain ⟨cur', h1, h2⟩ := setCells_row g t cs A.length w _ h
  have hex : ∀ j, j < cs.length → (w.cell? ⟨g, A.length + j, none⟩).isSome = true := fun j hj => by
    rw [cell_of_row w g _ _ t (0, 0) h, Array.getElem?_eq_getElem (by simp; omega)]
    rfl
  have e : cur' = (A ++ cs ++ B).toArray := by
    apply Array.ext
    · simp [h2, hl]
    · intro j hj hj2
      simp only [List.getElem_toArray]
      have hj3 : j < A.length + X.length + B.length := by simpa [h2, Nat.add_assoc] using hj
      have hc : (w.setCells g A.length cs).cell? ⟨g, j, none⟩ = some cur'[j] := by
        rw [cell_of_row _ g j cur' t (0, 0) h1, Array.getElem?_eq_getElem hj]
      rcases Nat.lt_or_ge j A.length with h3 | h3
      · rw [World.cell?_setCells_out g cs A.length w ⟨g, j, none⟩ (fun _ _ => .inl h3), cell_of_row w g j _ t (0, 0) h] at hc
        have : (A ++ cs ++ B)[j]? = some cur'[j] := by
          rw [← hc]
          simp [h3, Nat.lt_add_right]
        exact (Option.some.inj (this.symm.trans (List.getElem?_eq_getElem (by simpa using hj2))))
      · rcases Nat.lt_or_ge j (A.length + cs.length) with h4 | h4
        · have h5 := World.cell?_setCells_in g cs A.length w hex (j - A.length) (by omega)
          rw [show A.length + (j - A.length) = j by omega, hc] at h5
          have : (A ++ cs ++ B)[j]? = some cur'[j] := by
            rw [h5, List.append_assoc, List.getElem?_append_right h3, List.getElem?_append_left (by omega), List.getElem?_eq_getElem (by omega)]
          exact (Option.some.inj (this.symm.trans (List.getElem?_eq_getElem (by simpa using hj2))))
        · rw [World.cell?_setCells_out g cs A.length w ⟨g, j, none⟩ (fun _ _ => .inr h4), cell_of_row w g j _ t (0, 0) h] at hc
          have : (A ++ cs ++ B)[j]? = some cur'[j] := by
            rw [← hc, List.getElem?_toArray, List.getElem?_append_right (by simp; omega), List.getElem?_append_right (by simp; omega)]
            simp [hl]
          exact (Option.some.inj (this.symm.trans (List.getElem?_eq_getElem (by simpa using hj2))))
  rw [h1, e]
theorem copy_mid (dT sT ty e : TypeId) (size : Nat) {g n B k m dn dc sn sc : Nat} {ad : Addr} {A X Y cs : List Value} (hu : P.underlying dT = some (.slice e)) (hsz : (P.info? e).map (·.size) = some size)
    (hown : wx.ownsRow B e size (.slice (some ⟨g, 0, none⟩) n n) n (A ++ X ++ Y)) (hk : A.length = k) (hm : m = sn.min dn) (hl : cs.length = m * size) (hX : X.length = cs.length) (hsrc : ∀ j u, cs[j]? = some u → wx.cell? (ad.add j) = some u) (h1 : ∀ v ∈ cs, v.oneCell' = true) :
    (Builtin.copy_ #[dT, sT] ty #[.slice (some ⟨g, k, none⟩) dn dc, .slice (some ad) sn sc]).run P wx = .ok (goInt m) (wx.setCells g k cs) ∧ (wx.setCells g k cs).ownsRow B e size (.slice (some ⟨g, 0, none⟩) n n) n (A ++ cs ++ Y) ∧ But (some g) wx (wx.setCells g k cs) := by
  subst hk
  have hlen := hown.1
  have hrow : ∃ cur, B ≤ g ∧ wx.heap[g]? = some (.cells cur e (0, 0)) ∧ n ≤ maxLen ∧ cur.size = n * size ∧ cur.toList.take (n * size) = A ++ X ++ Y := by
    rcases hown.2 with ⟨h', _⟩ | ⟨g', cap', cur, h', hb, hg, hnc, hcm, hcs, hq⟩
    · simp at h'
    · simp only [Value.slice.injEq, Option.some.injEq, Addr.mk.injEq, and_true, true_and] at h'
      obtain ⟨rfl, rfl⟩ := h'
      exact ⟨cur, hb, hg, hcm, hcs, hq⟩
  obtain ⟨cur, hb, hg, hmx, hcs, hq⟩ := hrow
  have hcur : cur = (A ++ X ++ Y).toArray := by
    rw [← hq, List.take_of_length_le (by simp [hcs])]
  subst hcur
  refine ⟨run_copy_part wx dT sT ty e size m g A.length ad dn dc sn sc cs hu hsz hm hl hsrc ?_ (fun j _ => World.ownsRow.frozenAt hown _) h1, ⟨?_, .inr ⟨g, n, _, rfl, hb, setCells_mid hg hX.symm, Nat.le_refl _, hmx, ?_, ?_⟩⟩, setCells_but g cs A.length wx⟩
  · intro j hj
    rw [cell_of_row wx g _ _ e (0, 0) hg, Array.getElem?_eq_getElem (by simp; omega)]
    rfl
  · simpa [hX] using hlen
  · simpa [hX] using hcs
  · refine List.take_of_length_le ?_
    show (A ++ cs ++ Y).length ≤ n * size
    simp only [List.length_append] at hlen ⊢
    omega
end
end Go.Proofs.YtfbfkoeaihknoaaGreatDoor
