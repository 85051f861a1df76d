/- The contracts of twin of rows, both. -/
import Derived.Test.YtfhecgipfhhchaaChartS
import Derived.Test.YtfhecgipfhhchaaCopy
namespace Go.Proofs.Ytfhecgipfhhchaa
set_option maxRecDepth 100000
open Go.RowKit Go.ChangeShapes Go.WideShapes Go.Joins
/-- a call has returned these rows, made by itself -/
def RowsR (l : List Ro) (w : World) (e : Ending) (w' : World) : Prop := ∃ v, e = .returned v ∧ Ext w w' ∧ OwnR w' w.heap.size 65 v l.length l
theorem raw_set : ∀ (xs : List Raw) (k : Nat) (A : Option Addr) (n c : Nat), k < xs.length → (xs.flatMap shRaw.cells).set (k * 2 + 1) (.slice A n c) = (xs.set k ⟨(xs.getD k raw0).b, A, n, c⟩).flatMap shRaw.cells := by
  intro xs
  induction xs with
  | nil => intro k A n c h; simp at h
  | cons x xs ih =>
    intro k A n c h
    cases k with
    | zero => rfl
    | succ k =>
      have := ih k A n c (by simpa using h)
      have e : (k + 1) * 2 + 1 = (k * 2 + 1) + 1 + 1 := by omega
      rw [List.flatMap_cons, e, List.set_cons_succ, List.flatMap_cons]
      show Value.bool x.b :: Value.slice x.A x.n x.c :: ((xs.flatMap shRaw.cells).set (k * 2 + 1) (.slice A n c)) = _
      rw [this]
      rfl
theorem set_getD {xs : List Raw} {k j : Nat} (x : Raw) (hk : k < xs.length) : (xs.set k x).getD j raw0 = if j = k then x else xs.getD j raw0 := by
  rw [List.getD_eq_getElem?_getD, List.getElem?_set]
  by_cases h : k = j
  · subst h
    rw [if_pos rfl, if_pos hk, if_pos rfl]; rfl
  · rw [if_neg h, if_neg (fun e => h e.symm), ← List.getD_eq_getElem?_getD]
theorem size_row : (Try.prog.info? 65).map (·.size) = some 2 := by kernel_rfl
theorem size_st : (Try.prog.info? 80).map (·.size) = some 4 := by kernel_rfl
theorem OwnV.but {α : Type} {S : Shp α} {w w' : World} {B : Nat} {e : TypeId} {v : Value} {k : Nat} {L : List α} {E : Option Nat} (h : OwnV S w B e v k L) (hb : But E w w') (hne : v.ownBlock = none ∨ v.ownBlock ≠ E) : OwnV S w' B e v k L := World.ownsRow.kept h hb hne
theorem raw_cell {w : World} {B g n c k : Nat} {e : TypeId} {xs : List Raw} (h : OwnV shRaw w B e (.slice (some ⟨g, 0, none⟩) n c) n xs) (hk : k < n) : ∃ u, w.cell? ⟨g, k * 2 + 1, none⟩ = some u := by
  have h1 := World.ownsRow.cellAt h (k * 2 + 1) (by show k * 2 + 1 < n * 2; omega)
  have h2 := flat_get (S := shRaw) xs k 1 (by show 1 < 2; omega)
  rw [show k * shRaw.size + 1 = k * 2 + 1 from rfl] at h2
  rw [h1, h2, getRaw (by rw [h.len]; exact hk)]
  exact ⟨_, rfl⟩
set_option maxRecDepth 100000 in
set_option maxHeartbeats 4000000 in
theorem ctwin_any (A : Option Addr) (n c : Nat) (l : List Ro) (w : World) (hr : Rws w (fun _ => True) A n l) (hn : n ≤ 1000) (hcl : ∀ k, k < n → (l.getD k ro0).cells.length ≤ 1000) :
    Calls Try.prog 28 #[.slice A n c] w (RowsR l w) := by
  have hl := hr.len
  obtain ⟨hmm, raws, hrv, -, hros⟩ := hr
  have HR := Lib.hid (show Rws w (fun _ => True) A n l from ⟨hmm, raws, hrv, fun _ _ _ _ => trivial, hros⟩)
  have HRV := Lib.hid hrv
  have HROS := Lib.hid hros
  have HL := Lib.hid hl
  have HCL := Lib.hid hcl
  have HRL := Lib.hid hrv.1
  have HSRC := Lib.hid (show 0 < n → ∃ ad, A = some ad ∧ ∀ j u, (raws.flatMap shRaw.cells)[j]? = some u → w.cell? (ad.add j) = some u from fun h => by
    obtain ⟨b, off, e, _, _⟩ := hrv.2 h
    subst e
    exact ⟨_, rfl, hrv.cells_at⟩)
  clear hl hmm hrv hros hcl
  go_enter Try.func28, Try.ntmps28
  go_wp2_with (first
    | (at_make; refine wpList_make_own 29 65 (.agg #[.bool false, .slice none 0 0]) 2 32 n w.heap.size (by rfl) (by rfl) Try.underlying29 info_row (by rfl) (by omega) (by omega) (Nat.le_refl _) ?_; intro w1 HO1 HE1 hlt1)
    | (refine wpList_copy_all (cs := raws.flatMap shRaw.cells) 65 2 29 29 (by rfl) (by rfl) Try.underlying29 size_row (by rfl) (by rfl) HO1.out (by rw [flat_len, HRL.out]; rfl) (fun h => by obtain ⟨ad, h1, h2⟩ := HSRC.out h; exact ⟨ad, h1, fun j u hu => by have h3 := h2 j u hu; exact (Below.cell HE1.out (World.block_lt_of_cell? w _ h3)).trans h3⟩) (fun u hu => by obtain ⟨y, _, hy⟩ := List.mem_flatMap.1 hu; exact shRaw.one y u hy) ?_; intro w2 HO2 HB2))
  have HE2 := Lib.hid (show Ext w w2 from But.below (But.trans (But.of_ext HE1.out _) HB2.out) (Nat.le_refl _) (fun k e => by cases e; exact Nat.le_refl _))
  have HO3 := Lib.hid (show OwnV shRaw w2 w.heap.size 65 (.slice (some ⟨w.heap.size, 0, none⟩) n n) n raws from HO2.out)
  have hlt2 : w.heap.size < w2.heap.size := Nat.lt_of_lt_of_le hlt1 HB2.out.size
  have HE0 := Lib.hid (Ext.refl w)
  clear hlt1
  go_loopw [14] (fun i wr => ∃ (k : Nat) (xs : List Raw), i = .int .i64 k ∧ k ≤ n ∧ xs.length = n ∧ Hid (OwnV shRaw wr w.heap.size 65 (.slice (some ⟨w.heap.size, 0, none⟩) n n) n xs ∧ (∀ j, j < k → RoAt wr (fun b => w.heap.size < b ∧ ∀ o, wr.frozen? ⟨b, o, none⟩ = false) (xs.getD j raw0) (l.getD j ro0)) ∧ (∀ j, k ≤ j → xs.getD j raw0 = raws.getD j raw0)) ∧ Hid (Ext w wr) ∧ w.heap.size < wr.heap.size) (fun i _ => n - (intOf i).toNat)
  case atStart => exact ⟨0, raws, rfl, Nat.zero_le _, HRL.out, Lib.hid ⟨HO3.out, fun j hj => absurd hj (by omega), fun j _ => rfl⟩, HE2, hlt2⟩
  case round =>
    obtain ⟨k, xs, rfl, hk, hxl, HX, HE, hltr⟩ := hrel
    have hx := HE.out
    by_cases hlt : k < n
    · obtain ⟨b, off, A', n', c', rfl, hb0, -, d0, d1, hv, hm', hby, -⟩ := (HR.out.ext hx).at_ hlt
      have hcn := HCL.out k hlt
      rw [hv.1] at hcn
      have q0 : (0 : Int) ≤ (k : Int) := by omega
      have q1 : (k : Int) < (n : Int) := by omega
      have HW := Lib.hid hv
      have HBY := Lib.hid hby
      have HM := Lib.hid hm'
      clear hv hby hm'
      generalize hrow : l.getD k ro0 = row at *
      have HROW := Lib.hid hrow
      clear hrow
      obtain ⟨rb, rc⟩ := row
      simp only at d0
      -- the cell of the row that is written
      have hxb : (xs.getD k raw0).b = rb := by
        have h1 := (HROS.out.2 k (by rw [HL.out]; exact hlt)).1
        rw [← HX.out.2.2 k (Nat.le_refl _), HROW.out] at h1
        exact h1
      have HXB := Lib.hid hxb
      clear hxb
      obtain ⟨wq, rfl⟩ : ∃ wq : World, wq = wr := ⟨_, rfl⟩
      have HOW := Lib.hid HX.out.1
      obtain ⟨u7, hc7⟩ := raw_cell HOW.out hlt
      have hf7 := World.ownsRow.frozenAt HOW.out (k * 2 + 1)
      go_wp2_with (first
        | (at_make; refine wpList_make_own 63 80 (.agg #[.int .u8 0, .bool false, .int .i64 0, .int .i64 0]) 4 24 n' w.heap.size (by rfl) (by rfl) Try.underlying63 info_st (by rfl) (by omega) (by omega) (by simp; omega) ?_; intro w3 HO4 HE4 hlt4; have hq9 := HE4.out.facts; obtain ⟨hf1, hf2, hf3⟩ := hq9; have HO5 := Lib.hid (OwnV.ext (OwnV.alloc HOW.out _) HE4.out)))
      -- the cells are copied
      have hex : Ext wq w3 := Ext.trans ((Ext.refl wq).alloc _) HE4.out
      have hz3 : wq.heap.size + 1 < w3.heap.size := by have := hlt4; simp at this; exact this
      have hc8 : w3.cell? ⟨w.heap.size, k * 2 + 1, none⟩ = some u7 := (Below.cell (p := ⟨w.heap.size, k * 2 + 1, none⟩) hex hltr).trans hc7
      have hc9 : w3.cell? ⟨wq.heap.size, 1, none⟩ = some (.slice A' n' c') := by rw [hf1 _ _ (by simp)]; simp [go_sem]
      have g1 := World.cell?_setCell_same w3 ⟨w.heap.size, k * 2 + 1, none⟩ (.slice (some ⟨wq.heap.size + 1, 0, none⟩) n' n') hc8
      have g2 := (World.cell?_setCell_other w3 ⟨w.heap.size, k * 2 + 1, none⟩ ⟨wq.heap.size, 1, none⟩ (.slice (some ⟨wq.heap.size + 1, 0, none⟩) n' n') (by intro e; have e2 := congrArg Addr.block e; simp at e2; omega)).trans hc9
      have hbw : But (some w.heap.size) wq (w3.setCell ⟨w.heap.size, k * 2 + 1, none⟩ (.slice (some ⟨wq.heap.size + 1, 0, none⟩) n' n')) := (But.of_ext hex _).own rfl _
      have hews : Ext w (w3.setCell ⟨w.heap.size, k * 2 + 1, none⟩ (.slice (some ⟨wq.heap.size + 1, 0, none⟩) n' n')) := Below.setCell (hx.trans hex) (by simp) _
      have ho4 := HO4.out
      rw [World.size_alloc] at ho4
      have ho6 := World.ownsRow.kept (w' := w3.setCell ⟨w.heap.size, k * 2 + 1, none⟩ (.slice (some ⟨wq.heap.size + 1, 0, none⟩) n' n')) (row := some w.heap.size) ho4 ((But.refl (some w.heap.size) w3).own rfl _) (by right; simp [Value.ownBlock]; omega)
      have ho5 := (World.ownsRow.stored (OwnV.ext (OwnV.alloc HOW.out _) HE4.out) (k * 2 + 1) (.slice (some ⟨wq.heap.size + 1, 0, none⟩) n' n')).1
      rw [raw_set xs k (some ⟨wq.heap.size + 1, 0, none⟩) n' n' (by omega)] at ho5
      have hsz5 : (w3.setCell ⟨w.heap.size, k * 2 + 1, none⟩ (.slice (some ⟨wq.heap.size + 1, 0, none⟩) n' n')).heap.size = w3.heap.size := by simp [World.setCell]
      obtain ⟨ws, hws⟩ : ∃ ws, w3.setCell ⟨w.heap.size, k * 2 + 1, none⟩ (.slice (some ⟨wq.heap.size + 1, 0, none⟩) n' n') = ws := ⟨_, rfl⟩
      rw [hws] at g1 g2 hbw hews ho6 ho5 hsz5 ⊢
      have hvs : Vec shSt ws A' n' rc := by
        obtain ⟨b8, off8, A8, n8, c8, e8, _, _, _, f8, v8, _⟩ := HR.out.at_ hlt
        cases e8
        have h9 := (Below.cell (p := ⟨b, off + k * 2 + 1, none⟩) hx (World.block_lt_of_cell? w _ f8)).trans f8
        rw [d1] at h9
        cases h9
        rw [HROW.out] at v8
        exact v8.ext hews
      have HVS := Lib.hid hvs
      have hlw1 : w.heap.size < ws.heap.size := by omega
      have hlw2 : wq.heap.size < ws.heap.size := by omega
      have hne1 : some w.heap.size ≠ some (wq.heap.size + 1) := by simp; omega
      have hne2 : some wq.heap.size ≠ some (wq.heap.size + 1) := by simp
      clear hws hf1 hf2 hf3 hc7 hf7 hc8 hc9
      have HO5 := Lib.hid ho5
      have HO6 := Lib.hid ho6
      have HBW := Lib.hid hbw
      have HEWS := Lib.hid hews
      clear ho5 ho6 hbw hews hex
      go_region_held3 (fun w' => w'.cell? ⟨w.heap.size, k * 2 + 1, none⟩ = some (.slice (some ⟨wq.heap.size + 1, 0, none⟩) n' n') ∧ w'.cell? ⟨wq.heap.size, 1, none⟩ = some (.slice A' n' c')) (go_keep)
        (first | (refine step_copy_all (cs := rc.flatMap stc) 80 4 63 63 (by rfl) (by rfl) Try.underlying63 size_st (by rfl) (by rfl) HO6.out (by rw [show (rc.flatMap stc).length = rc.length * 4 from flat_len (S := shSt) rc, HVS.out.1]) (fun h => by obtain ⟨b9, off9, e9, _, _⟩ := HVS.out.2 h; subst e9; exact ⟨_, rfl, HVS.out.cells_at⟩) (fun u hu => by obtain ⟨y, _, hy⟩ := List.mem_flatMap.1 hu; exact shSt.one y u hy) ?_; intro w5 HO7 HB7; have k1 := (But.cell HB7.out (p := ⟨w.heap.size, k * 2 + 1, none⟩) hlw1 hne1).trans g1; have k2 := (But.cell HB7.out (p := ⟨wq.heap.size, 1, none⟩) hlw2 hne2).trans g2))
      have HR5 := Lib.hid (show OwnV shRaw w5 w.heap.size 65 (.slice (some ⟨w.heap.size, 0, none⟩) n n) n (xs.set k ⟨(xs.getD k raw0).b, some ⟨wq.heap.size + 1, 0, none⟩, n', n'⟩) from
        OwnV.but (w := ws.drew) (OwnV.drew HO5.out) HB7.out (by right; simp [Value.ownBlock]; omega))
      have HE5 := Lib.hid (show Ext w w5 from But.below (But.trans (But.of_ext (Ext.drew HEWS.out) (some (wq.heap.size + 1))) HB7.out) (Nat.le_refl _) (fun k e => by cases e; omega))
      have HK5 := Lib.hid (show ∀ j, j < k + 1 → RoAt w5 (fun b => w.heap.size < b ∧ ∀ o, w5.frozen? ⟨b, o, none⟩ = false) ((xs.set k ⟨(xs.getD k raw0).b, some ⟨wq.heap.size + 1, 0, none⟩, n', n'⟩).getD j raw0) (l.getD j ro0) from fun j hj => by
        rw [set_getD _ (by omega)]
        by_cases hjk : j = k
        · subst hjk
          rw [if_pos rfl, HROW.out, HXB.out]
          refine ⟨rfl, Vec.of_own (show OwnV shSt w5 w.heap.size 80 (.slice (some ⟨wq.heap.size + 1, 0, none⟩) n' n') n' rc from HO7.out), HM.out, HBY.out, fun _ b9 off9 e9 => by cases e9; exact ⟨by omega, fun o => World.ownsRow.frozenAt (show OwnV shSt w5 w.heap.size 80 (.slice (some ⟨wq.heap.size + 1, 0, none⟩) n' n') n' rc from HO7.out) o⟩⟩
        · rw [if_neg hjk]
          refine (HX.out.2.1 j (by omega)).keep (by have := HB7.out.size; have h2 := HBW.out.size; exact Nat.le_trans h2 this) fun b9 hb9 ⟨hk8, hk9⟩ => ⟨⟨hk8, fun o => ((But.frozen HB7.out (p := ⟨b9, o, none⟩) (Nat.lt_of_lt_of_le hb9 HBW.out.size) (by simp; omega)).trans (But.frozen HBW.out (p := ⟨b9, o, none⟩) hb9 (by simp; omega))).trans (hk9 o)⟩, fun o => ?_⟩
          have e1 := But.cell HBW.out (p := ⟨b9, o, none⟩) hb9 (by simp; omega)
          have e2 := But.cell HB7.out (p := ⟨b9, o, none⟩) (Nat.lt_of_lt_of_le hb9 HBW.out.size) (by simp; omega)
          exact e2.trans e1)
      have hlt5 : w.heap.size < w5.heap.size := Nat.lt_of_lt_of_le hlw1 HB7.out.size
      clear k1 k2 g1 g2
      go_wp2
      go_roundw
      case rel =>
        refine ⟨k + 1, _, by go_num, by omega, by rw [List.length_set]; exact hxl, Lib.hid ⟨HR5.out, HK5.out, fun j hj => ?_⟩, HE5, hlt5⟩
        rw [set_getD _ (by omega), if_neg (by omega)]
        exact HX.out.2.2 j (by omega)
      case measure => simp [intOf]; omega
    · obtain rfl : k = n := by omega
      have HOK := Lib.hid (show OwnR wr w.heap.size 65 (.slice (some ⟨w.heap.size, 0, none⟩) k k) l.length l from by
        rw [HL.out]
        refine ⟨xs, HX.out.1, by rw [hxl, HL.out], fun j hj => (HX.out.2.1 j (by rw [HL.out] at hj; exact hj)).keep (Nat.le_refl _) fun b9 _ ⟨hk8, hk9⟩ => ⟨⟨by omega, by simp [Value.ownBlock]; omega, hk9⟩, fun _ => rfl⟩⟩)
      go_wp2
      go_ret
      exact ⟨_, rfl, hx, HOK.out⟩
end Go.Proofs.Ytfhecgipfhhchaa
