/- Slices that a call makes at once, and copies into them; elements of any size. -/
import Derived.Test.YtfhecgipfhhchaaApp
import Derived.Laws.CopyOwn
namespace Go.Proofs.Ytfhecgipfhhchaa
set_option maxRecDepth 100000
open Go.RowKit Go.ChangeShapes Go.WideShapes Go.Joins
section
variable {P : Program} {ops : Array Oper} {rest : List Oper} {o : Oper} {a : Act} {K : Act → World → Prop} {Q : Exit → Act → World → Prop} {E : Prop} {w wx : World}
/-- a slice made at once -/
theorem wp_make_own (T e : TypeId) (z : Value) (size bytes : Nat) {l : Operand} (n B : Nat) (hop : o.op = .makeSlice T l l) (ht : P.underlying T = some (.slice e)) (hinfo : (P.info? e).map (fun i => (i.zero, i.size, i.bytes)) = some (some z, size, bytes))
    (hl : a.eval l = .int .i64 (n : Int)) (hn : n ≤ 1000000) (hby : bytes ≤ 1000) (hB : B ≤ wx.heap.size)
    (h : ∀ w1, w1.ownsRow B e size (.slice (some ⟨wx.heap.size, 0, none⟩) n n) n (madeCells z.cells (n * size)).toList → Ext wx w1 → wx.heap.size < w1.heap.size → K (a.put o.dst (.slice (some ⟨wx.heap.size, 0, none⟩) n n)) w1) : o.wp P a wx K Q := by
  obtain ⟨i0, hi, hz0, hz1, hz2⟩ := info_parts hinfo
  obtain ⟨w', hrun, r1, r2⟩ := run_make_full (P := P) wx B T e i0 z size ht hi hz0 hz1 .i64 .i64 n (by rw [hz2]; have := Nat.mul_le_mul hby hn; omega) (by unfold maxLen; omega) hB
  unfold Oper.wp
  simp [execOp, hop, hl, hrun, Result.andThen]
  refine h w' r1 (But.ext_none r2) ?_
  obtain ⟨_, h2⟩ := own_blk r1 wx.heap.size (by simp [Value.ownBlock])
  exact h2
theorem wpList_make_own (T e : TypeId) (z : Value) (size bytes : Nat) {l : Operand} (n B : Nat) (hgd : o.guard = none) (hop : o.op = .makeSlice T l l) (ht : P.underlying T = some (.slice e)) (hinfo : (P.info? e).map (fun i => (i.zero, i.size, i.bytes)) = some (some z, size, bytes))
    (hl : a.eval l = .int .i64 (n : Int)) (hn : n ≤ 1000000) (hby : bytes ≤ 1000) (hB : B ≤ wx.heap.size)
    (h : ∀ w1, Hid (w1.ownsRow B e size (.slice (some ⟨wx.heap.size, 0, none⟩) n n) n (madeCells z.cells (n * size)).toList) → Hid (Ext wx w1) → wx.heap.size < w1.heap.size → wpList P ops Q rest (a.put o.dst (.slice (some ⟨wx.heap.size, 0, none⟩) n n)) w1) : wpList P ops Q (o :: rest) a wx :=
  wpList_plain hgd fun _ hK => wp_make_own T e z size bytes n B hop ht hinfo hl hn hby hB fun w' h1 h2 h3 => hK _ _ (h w' h1 h2 h3)
theorem setCells_row (g : Nat) (t : TypeId) : ∀ (vs : List Value) (off : Nat) (w : World) (cur : Array Value), w.heap[g]? = some (.cells cur t (0, 0)) → ∃ cur', (w.setCells g off vs).heap[g]? = some (.cells cur' t (0, 0)) ∧ cur'.size = cur.size := by
  intro vs
  induction vs with
  | nil => intro off w cur h; exact ⟨cur, h, rfl⟩
  | cons v r ih =>
    intro off w cur h
    have h1 := heap_setCell_same w g off cur t v h
    obtain ⟨cur', h2, h3⟩ := ih (off + 1) _ _ h1
    exact ⟨cur', h2, by rw [h3]; simp⟩
theorem setCells_but (g : Nat) : ∀ (vs : List Value) (off : Nat) (w : World), But (some g) w (w.setCells g off vs) := by
  intro vs
  induction vs with
  | nil => intro off w; exact But.refl _ _
  | cons v r ih =>
    intro off w
    exact ((But.refl (some g) w).own (p := ⟨g, off, none⟩) rfl v).trans (ih (off + 1) _)
/-- a row written whole -/
theorem setCells_whole {g : Nat} {t : TypeId} {w : World} {cur : Array Value} {cs : List Value} (h : w.heap[g]? = some (.cells cur t (0, 0))) (hl : cs.length = cur.size) : (w.setCells g 0 cs).heap[g]? = some (.cells cs.toArray t (0, 0)) := by
  obtain ⟨cur', h1, h2⟩ := setCells_row g t cs 0 w cur h
  have hex : ∀ j, j < cs.length → (w.cell? ⟨g, 0 + j, none⟩).isSome = true := fun j hj => by
    rw [Nat.zero_add, cell_of_row w g j cur t (0, 0) h, Array.getElem?_eq_getElem (by omega)]
    rfl
  have e : cur' = cs.toArray := by
    apply Array.ext
    · simp [h2, hl]
    · intro j hj hj2
      have hj3 : j < cs.length := by simpa using hj2
      have := World.cell?_setCells_in g cs 0 w hex j hj3
      rw [Nat.zero_add, cell_of_row _ g j cur' t (0, 0) h1, Array.getElem?_eq_getElem hj] at this
      simpa using this
  rw [h1, e]
theorem run_copy_any (w : World) (dT sT ty elem : TypeId) (size : Nat) (dp sp : Option Addr) (n dc sc : Nat) (cs : List Value) (g : Nat) (hu : P.underlying dT = some (.slice elem)) (hs : (P.info? elem).map (·.size) = some size) (hn : cs.length = n * size)
    (hpos : 0 < n → dp = some ⟨g, 0, none⟩ ∧ ∃ ad, sp = some ad ∧ ∀ j v, cs[j]? = some v → w.cell? (ad.add j) = some v)
    (hc : ∀ j, j < cs.length → (w.cell? ⟨g, j, none⟩).isSome = true) (hf : ∀ j, j < cs.length → w.frozen? ⟨g, j, none⟩ = false) (h1 : ∀ v ∈ cs, v.oneCell' = true) :
    (Builtin.copy_ #[dT, sT] ty #[.slice dp n dc, .slice sp n sc]).run P w = .ok (goInt n) (w.setCells g 0 cs) := by
  cases hq : P.info? elem with
  | none => simp [hq] at hs
  | some i =>
    have hi : i.size = size := by simpa [hq] using hs
    rcases Nat.eq_zero_or_pos n with h0 | h0
    · subst h0
      obtain rfl : cs = [] := List.eq_nil_of_length_eq_zero (by simpa using hn)
      have hl : ∀ (x : Addr), (loadCells x 0).run P w = .ok #[] w := fun x => by simpa using run_loadCells_list (P := P) w x [] (by simp)
      cases dp <;> cases sp <;> simp [Builtin.copy_, run_underlying hu, Builtin.lenOf, Builtin.firstCells, sizeOf, typeInfo, hq, storeCells, hl, World.setCells]
    · obtain ⟨rfl, ad, rfl, hsrc⟩ := hpos h0
      have hl := run_loadCells_list (P := P) w ad cs hsrc
      have hst := run_storeCells_cells (P := P) g 0 cs 0 w (by simpa using hc) (by simpa using hf) h1
      rw [hn] at hl
      simp [Builtin.copy_, run_underlying hu, Builtin.lenOf, Builtin.firstCells, sizeOf, typeInfo, hq, hi, hl, hst]
/-- as many elements copied as the row has that the call has made -/
theorem wp_copy_own (e : TypeId) (size : Nat) {d s : Operand} (dT sT : TypeId) {g n c B : Nat} {A : Option Addr} {xs cs : List Value} (ho : o.op = .call { callee := .builtin .copy, args := #[d, s], argTypes := #[dT, sT] })
    (hu : P.underlying dT = some (.slice e)) (hsz : (P.info? e).map (·.size) = some size) (hd : a.eval d = .slice (some ⟨g, 0, none⟩) n n) (hs : a.eval s = .slice A n c)
    (hown : wx.ownsRow B e size (.slice (some ⟨g, 0, none⟩) n n) n xs) (hl : cs.length = n * size) (hA : 0 < n → ∃ ad, A = some ad ∧ ∀ j u, cs[j]? = some u → wx.cell? (ad.add j) = some u) (h1 : ∀ v ∈ cs, v.oneCell' = true)
    (h : ∀ w1, w1.ownsRow B e size (.slice (some ⟨g, 0, none⟩) n n) n cs → But (some g) wx w1 → K (a.put o.dst (goInt n)) w1) : o.wp P a wx K Q := by
  have hrow : ∃ cur, B ≤ g ∧ wx.heap[g]? = some (.cells cur e (0, 0)) ∧ n ≤ maxLen ∧ cur.size = n * size := by
    rcases hown.2 with ⟨h', _⟩ | ⟨g', cap', cur, h', hb, hg, hnc, hcm, hcs, _⟩
    · simp at h'
    · simp only [Value.slice.injEq, Option.some.injEq, Addr.mk.injEq, and_true, true_and] at h'
      obtain ⟨rfl, rfl⟩ := h'
      exact ⟨cur, hb, hg, hcm, hcs⟩
  obtain ⟨cur, hb, hg, hm, hcs⟩ := hrow
  have hrun := run_copy_any (P := P) wx dT sT o.type e size (some ⟨g, 0, none⟩) A n n c cs g hu hsz hl (fun hn => ⟨rfl, hA hn⟩)
    (fun j hj => by rw [cell_of_row wx g j cur e (0, 0) hg, Array.getElem?_eq_getElem (by omega)]; rfl) (fun j _ => World.ownsRow.frozenAt hown j) h1
  unfold Oper.wp
  simp [execOp, ho, resolve, invoke, builtin, hd, hs, hrun, Result.andThen]
  refine h _ ⟨hl, .inr ⟨g, n, cs.toArray, rfl, hb, setCells_whole hg (by omega), Nat.le_refl _, hm, by simpa using hl, ?_⟩⟩ (setCells_but g cs 0 wx)
  rw [List.take_of_length_le (by simp; omega)]
theorem wpList_copy_all (e : TypeId) (size : Nat) {d s : Operand} (dT sT : TypeId) {g n c B : Nat} {A : Option Addr} {xs cs : List Value} (hgd : o.guard = none) (ho : o.op = .call { callee := .builtin .copy, args := #[d, s], argTypes := #[dT, sT] })
    (hu : P.underlying dT = some (.slice e)) (hsz : (P.info? e).map (·.size) = some size) (hd : a.eval d = .slice (some ⟨g, 0, none⟩) n n) (hs : a.eval s = .slice A n c)
    (hown : wx.ownsRow B e size (.slice (some ⟨g, 0, none⟩) n n) n xs) (hl : cs.length = n * size) (hA : 0 < n → ∃ ad, A = some ad ∧ ∀ j u, cs[j]? = some u → wx.cell? (ad.add j) = some u) (h1 : ∀ v ∈ cs, v.oneCell' = true)
    (h : ∀ w1, Hid (w1.ownsRow B e size (.slice (some ⟨g, 0, none⟩) n n) n cs) → Hid (But (some g) wx w1) → wpList P ops Q rest (a.put o.dst (goInt n)) w1) : wpList P ops Q (o :: rest) a wx :=
  wpList_plain hgd fun _ hK => wp_copy_own e size dT sT ho hu hsz hd hs hown hl hA h1 fun w' g1 g2 => hK _ _ (h w' g1 g2)
theorem step_copy_all (e : TypeId) (size : Nat) {d s : Operand} (dT sT : TypeId) {g n c B : Nat} {A : Option Addr} {xs cs : List Value} (hgd : o.guard = none) (ho : o.op = .call { callee := .builtin .copy, args := #[d, s], argTypes := #[dT, sT] })
    (hu : P.underlying dT = some (.slice e)) (hsz : (P.info? e).map (·.size) = some size) (hd : a.eval d = .slice (some ⟨g, 0, none⟩) n n) (hs : a.eval s = .slice A n c)
    (hown : wx.ownsRow B e size (.slice (some ⟨g, 0, none⟩) n n) n xs) (hl : cs.length = n * size) (hA : 0 < n → ∃ ad, A = some ad ∧ ∀ j u, cs[j]? = some u → wx.cell? (ad.add j) = some u) (h1 : ∀ v ∈ cs, v.oneCell' = true)
    (h : ∀ w1, Hid (w1.ownsRow B e size (.slice (some ⟨g, 0, none⟩) n n) n cs) → Hid (But (some g) wx w1) → K (a.put o.dst (goInt n)) w1) :
    if Region.wanted o (yielded ops a.tmps) = true then Oper.wp P o a wx K Q else E := by
  have hw : Region.wanted o (yielded ops a.tmps) = true := by simp [Region.wanted, hgd]
  rw [if_pos hw]
  exact wp_copy_own e size dT sT ho hu hsz hd hs hown hl hA h1 h
end
end Go.Proofs.Ytfhecgipfhhchaa
