/- Cells appended to what a call has put together, and where it lies then. -/
import Derived.Test.YtfbfkoeaihknoaaGreatDoorH03
import Derived.Test.YtfbfkoeaihknoaaGreatDoorH01
import Derived.Test.YtfbfkoeaihknoaaGreatDoorH00
import Derived.Deep.QuietTactic
import Derived.BigQuiet
import Derived.Laws.Small
import Derived.Deep.RegionHeld3
import Derived.Deep.DeepCutAuto
namespace Go.Proofs.YtfbfkoeaihknoaaGreatDoor
set_option maxRecDepth 100000
open Go.RowKit Go.ChangeShapes Go.WideShapes Go.Joins
theorem own_blk {w : World} {B : Nat} {e : TypeId} {size : Nat} {v : Value} {n : Nat} {xs : List Value} (h : w.ownsRow B e size v n xs) : ∀ k, v.ownBlock = some k → B ≤ k ∧ k < w.heap.size := by
  intro k hk
  rcases h.2 with ⟨h1, _⟩ | ⟨g, cap, cur, h1, hb, hg, _⟩
  · subst h1; simp [Value.ownBlock] at hk
  · subst h1
    simp [Value.ownBlock] at hk
    subst hk
    exact ⟨hb, (Array.getElem?_eq_some_iff.1 hg).1⟩
section
variable {P : Program} {ops : Array Oper} {rest : List Oper} {o : Oper} {a : Act} {K : Act → World → Prop} {Q : Exit → Act → World → Prop} {E : Prop} {w wx : World}
/-- cells appended to what the call has put together -/
theorem wp_append_cells (T e : TypeId) (z : Value) (size bytes : Nat) {s x : Operand} {v : Value} {k m c : Nat} {A : Option Addr} {L news : List Value}
    (ho : o.op = .call { callee := .builtin .append, args := #[s, x], argTypes := #[T, T] })
    (ht : P.underlying T = some (.slice e)) (hinfo : (P.info? e).map (fun i => (i.zero, i.size, i.bytes)) = some (some z, size, bytes)) (hzs : z.cells.size = size) (hsz : 0 < size) (hby : bytes ≤ 1000)
    (hs : a.eval s = v) (hx : a.eval x = .slice A m c) (hown : wx.ownsRow w.heap.size e size v k L) (hext : Ext w wx) (hl : news.length = m * size)
    (hA : 0 < m → ∃ ad, A = some ad ∧ ∀ j u, news[j]? = some u → wx.cell? (ad.add j) = some u) (h1 : ∀ u ∈ news, u.oneCell' = true) (hk : k + m ≤ 1000000)
    (h : ∀ v' w1, w1.ownsRow w.heap.size e size v' (k + m) (L ++ news) → Ext w w1 → wx.grownBy w1 v.ownBlock → (v'.ownBlock = v.ownBlock ∨ v'.ownBlock = some wx.heap.size) → K (a.put o.dst v') w1) : o.wp P a wx K Q := by
  obtain ⟨i0, hi, hz0, hz1, hz2⟩ := info_parts hinfo
  have key : ∃ v' w1, (Builtin.append_ #[T, T] o.type #[v, .slice A m c]).run P wx = .ok v' w1 ∧ w1.ownsRow w.heap.size e size v' (k + m) (L ++ news) ∧ Ext w w1 ∧ wx.grownBy w1 v.ownBlock ∧ (v'.ownBlock = v.ownBlock ∨ v'.ownBlock = some wx.heap.size) := by
    rcases Nat.eq_zero_or_pos m with hm | hm
    · subst hm
      have hn : news = [] := List.eq_nil_of_length_eq_zero (by simpa using hl)
      subst hn
      rcases A with _ | ad
      · exact ⟨v, wx, run_append_of_nil wx _ T o.type e i0 size ht hi v k _ hown c, by simpa using hown, hext, World.grownBy.refl wx _, .inl rfl⟩
      · obtain ⟨v', w1, hrun, h2, h3, h4⟩ := run_append_own_at (P := P) wx w.heap.size T o.type e i0 z size bytes ht hi hz0 hz1 hz2 hzs hsz v k _ hown ad 0 c [] (by simp) (fun j u hu => by simp at hu)
          h1 (by unfold maxLen; omega) (by have := Nat.mul_le_mul (show k + 0 ≤ 1000000 by omega) hby; omega) (Below.size hext)
        exact ⟨v', w1, hrun, h2, Below.grown hext h3 (Below.size hext) (own_base hown), h3, h4.2⟩
    · obtain ⟨ad, rfl, hc⟩ := hA hm
      obtain ⟨v', w1, hrun, h2, h3, h4⟩ := run_append_own_at (P := P) wx w.heap.size T o.type e i0 z size bytes ht hi hz0 hz1 hz2 hzs hsz v k _ hown ad m c news hl hc
        h1 (by unfold maxLen; omega) (by have := Nat.mul_le_mul (show k + m ≤ 1000000 by omega) hby; omega) (Below.size hext)
      exact ⟨v', w1, hrun, h2, Below.grown hext h3 (Below.size hext) (own_base hown), h3, h4.2⟩
  obtain ⟨v', w1, hrun, h2, h3, h4, h5⟩ := key
  unfold Oper.wp execOp
  simp only [ho, resolve, invoke, builtin, Sem.run_bind, Sem.run_pure, Result.andThen_ok, List.map_toArray, List.map_cons, List.map_nil, hs, hx, hrun]
  exact h v' w1 h2 h3 h4 h5
/-- cells appended to a row of its own, wherever that began -/
theorem wp_append_cellsB (T e : TypeId) (z : Value) (size bytes : Nat) {s x : Operand} {v : Value} {k m c : Nat} {A : Option Addr} {L news : List Value}
    (ho : o.op = .call { callee := .builtin .append, args := #[s, x], argTypes := #[T, T] })
    (ht : P.underlying T = some (.slice e)) (hinfo : (P.info? e).map (fun i => (i.zero, i.size, i.bytes)) = some (some z, size, bytes)) (hzs : z.cells.size = size) (hsz : 0 < size) (hby : bytes ≤ 1000)
    (hs : a.eval s = v) (hx : a.eval x = .slice A m c) (B : Nat) (hown : wx.ownsRow B e size v k L) (hB : B ≤ wx.heap.size) (hl : news.length = m * size)
    (hA : 0 < m → ∃ ad, A = some ad ∧ ∀ j u, news[j]? = some u → wx.cell? (ad.add j) = some u) (h1 : ∀ u ∈ news, u.oneCell' = true) (hk : k + m ≤ 1000000)
    (h : ∀ v' w1, w1.ownsRow B e size v' (k + m) (L ++ news) → wx.grownBy w1 v.ownBlock → (v'.ownBlock = v.ownBlock ∨ v'.ownBlock = some wx.heap.size) → K (a.put o.dst v') w1) : o.wp P a wx K Q := by
  obtain ⟨i0, hi, hz0, hz1, hz2⟩ := info_parts hinfo
  have key : ∃ v' w1, (Builtin.append_ #[T, T] o.type #[v, .slice A m c]).run P wx = .ok v' w1 ∧ w1.ownsRow B e size v' (k + m) (L ++ news) ∧ wx.grownBy w1 v.ownBlock ∧ (v'.ownBlock = v.ownBlock ∨ v'.ownBlock = some wx.heap.size) := by
    rcases Nat.eq_zero_or_pos m with hm | hm
    · subst hm
      have hn : news = [] := List.eq_nil_of_length_eq_zero (by simpa using hl)
      subst hn
      rcases A with _ | ad
      · exact ⟨v, wx, run_append_of_nil wx _ T o.type e i0 size ht hi v k _ hown c, by simpa using hown, World.grownBy.refl wx _, .inl rfl⟩
      · obtain ⟨v', w1, hrun, h2, h3, h4⟩ := run_append_own_at (P := P) wx B T o.type e i0 z size bytes ht hi hz0 hz1 hz2 hzs hsz v k _ hown ad 0 c [] (by simp) (fun j u hu => by simp at hu)
          h1 (by unfold maxLen; omega) (by have := Nat.mul_le_mul (show k + 0 ≤ 1000000 by omega) hby; omega) hB
        exact ⟨v', w1, hrun, h2, h3, h4.2⟩
    · obtain ⟨ad, rfl, hc⟩ := hA hm
      obtain ⟨v', w1, hrun, h2, h3, h4⟩ := run_append_own_at (P := P) wx B T o.type e i0 z size bytes ht hi hz0 hz1 hz2 hzs hsz v k _ hown ad m c news hl hc
        h1 (by unfold maxLen; omega) (by have := Nat.mul_le_mul (show k + m ≤ 1000000 by omega) hby; omega) hB
      exact ⟨v', w1, hrun, h2, h3, h4.2⟩
  obtain ⟨v', w1, hrun, h2, h4, h5⟩ := key
  unfold Oper.wp execOp
  simp only [ho, resolve, invoke, builtin, Sem.run_bind, Sem.run_pure, Result.andThen_ok, List.map_toArray, List.map_cons, List.map_nil, hs, hx, hrun]
  exact h v' w1 h2 h4 h5
end
/-- a call has returned these stitches, made by itself -/
def StsR (l : List St) (w : World) (e : Ending) (w' : World) : Prop := ∃ (A : Option Addr) (n c : Nat), e = .returned (.slice A n c) ∧ Ext w w' ∧ Vec shSt w' A n l ∧ (0 < n → ∀ b off, A = some ⟨b, off, none⟩ → w.heap.size ≤ b)
/-- a list that lies elsewhere than in a block -/
def VecX (w : World) (X : Option Nat) (A : Option Addr) (n : Nat) (l : List St) : Prop := Vec shSt w A n l ∧ (0 < n → ∀ b off, A = some ⟨b, off, none⟩ → some b ≠ X)
theorem VecX.step {w w' : World} {X X' : Option Nat} {A : Option Addr} {n : Nat} {l : List St} (h : VecX w X A n l) (hb : w.grownBy w' X) (hx : X' = X ∨ X' = some w.heap.size) : VecX w' X' A n l := by
  refine ⟨⟨h.1.1, fun hn => ?_⟩, fun hn b off e => ?_⟩
  · obtain ⟨b, off, e, hlt, hc⟩ := h.1.2 hn
    exact ⟨b, off, e, Nat.lt_of_lt_of_le hlt (But.size hb), fun k x hx i u hu => (But.cell (p := ⟨b, off + (k * shSt.size + i), none⟩) hb hlt (h.2 hn b off e)).trans (hc k x hx i u hu)⟩
  · obtain ⟨b', off', e', hlt, _⟩ := h.1.2 hn
    rw [e] at e'
    cases e'
    rcases hx with hx | hx
    · rw [hx]; exact h.2 hn b off e
    · rw [hx]; intro e2; cases e2; omega
theorem VecX.ext {w w' : World} {X : Option Nat} {A : Option Addr} {n : Nat} {l : List St} (h : VecX w X A n l) (hb : Ext w w') : VecX w' X A n l := ⟨h.1.ext hb, h.2⟩
theorem OwnV.blk {α : Type} {S : Shp α} {w : World} {B : Nat} {e : TypeId} {v : Value} {k : Nat} {L : List α} (h : OwnV S w B e v k L) : ∀ b, v.ownBlock = some b → B ≤ b ∧ b < w.heap.size := own_blk h
theorem own_vecB {α : Type} {S : Shp α} {w : World} {B k : Nat} {e : TypeId} {v : Value} {L : List α} (h : OwnV S w B e v k L) : ∃ A c, v = .slice A k c ∧ Vec S w A k L ∧ (0 < k → ∀ b off, A = some ⟨b, off, none⟩ → B ≤ b) := by
  obtain ⟨A, c, rfl, hv⟩ := own_vec h
  refine ⟨A, c, rfl, hv, fun hk b off e => ?_⟩
  subst e
  exact (OwnV.blk h b (by simp [Value.ownBlock])).1
section
variable {α : Type} {S : Shp α} {P : Program} {ops : Array Oper} {rest : List Oper} {o : Oper} {a : Act} {Q : Exit → Act → World → Prop} {w wx : World}
/-- a list appended to what the call has put together; where it lies then -/
theorem wpList_append_vecsB (T e : TypeId) (z : Value) (bytes : Nat) {s x : Operand} {v : Value} {k m c : Nat} {A : Option Addr} {L xs : List α}
    (hgd : o.guard = none) (ho : o.op = .call { callee := .builtin .append, args := #[s, x], argTypes := #[T, T] })
    (ht : P.underlying T = some (.slice e)) (hinfo : (P.info? e).map (fun i => (i.zero, i.size, i.bytes)) = some (some z, S.size, bytes)) (hzs : z.cells.size = S.size) (hby : bytes ≤ 1000)
    (hs : a.eval s = v) (hx : a.eval x = .slice A m c) (hown : OwnV S wx w.heap.size e v k L) (hext : Ext w wx) (hxs : Vec S wx A m xs) (hk : k + m ≤ 1000000)
    (h : ∀ v' w1, OwnV S w1 w.heap.size e v' (k + m) (L ++ xs) → Hid (Ext w w1) → Hid (wx.grownBy w1 v.ownBlock ∧ (v'.ownBlock = v.ownBlock ∨ v'.ownBlock = some wx.heap.size)) → wpList P ops Q rest (a.put o.dst v') w1) : wpList P ops Q (o :: rest) a wx :=
  wpList_plain hgd fun _ hK => wp_append_cells (news := xs.flatMap S.cells) T e z S.size bytes ho ht hinfo hzs S.pos hby hs hx hown hext (by rw [flat_len, hxs.1])
    (fun hm => by
      obtain ⟨b, off, hA, _, _⟩ := hxs.2 hm
      subst hA
      exact ⟨_, rfl, hxs.cells_at⟩) (fun u hu => by obtain ⟨y, _, hy⟩ := List.mem_flatMap.1 hu; exact S.one y u hy) hk
    fun v' w' h2 h3 h4 h5 => hK _ _ (h v' w' (by unfold OwnV; rw [List.flatMap_append]; exact h2) h3 ⟨h4, h5⟩)
end
theorem But.grown {E X : Option Nat} {a b c : World} (h : But E a b) (k : b.grownBy c X) (hx : ∀ x, X = some x → a.heap.size ≤ x) : But E a c :=
  ⟨k.os.trans h.os, k.tape.trans h.tape, k.output.trans h.output, Nat.le_trans h.size k.size, fun i hi hne => (k.block i (Nat.lt_of_lt_of_le hi h.size) (fun e => by have := hx i e.symm; omega)).trans (h.block i hi hne)⟩
end Go.Proofs.YtfbfkoeaihknoaaGreatDoor
/- The reference's Cut, Number and kind. -/
namespace Go.Proofs.YtfbfkoeaihknoaaGreatDoor
set_option maxRecDepth 100000
set_option maxRecDepth 100000
open Go.RowKit
theorem str_mid (l : List UInt8) (f k : Nat) : (⟨l.toArray⟩ : ByteArray).extract f k = ⟨((l.drop f).take (k - f)).toArray⟩ := by
  apply ByteArray.ext
  apply Array.toList_inj.1
  rw [Lib.extract_data]
theorem spl_last {c : UInt8} {l : List UInt8} {f : Nat} (h : c ∉ (l.drop f).take (l.length - f)) : spl c (l.drop f) = [(l.drop f).take (l.length - f)] := by
  have e : (l.drop f).take (l.length - f) = l.drop f := List.take_of_length_le (by simp)
  rw [e] at h ⊢
  exact spl_word h
theorem spl_at {c : UInt8} {l : List UInt8} {f k : Nat} (hf : f ≤ k) (hk : k < l.length) (h : c ∉ (l.drop f).take (k - f)) (hc : l.getD k 0 = c) : spl c (l.drop f) = (l.drop f).take (k - f) :: spl c (l.drop (k + 1)) := by
  have e : l.drop f = (l.drop f).take (k - f) ++ c :: l.drop (k + 1) := by
    conv => lhs; rw [← List.take_append_drop (k - f) (l.drop f)]
    rw [List.drop_drop, show f + (k - f) = k by omega, List.drop_eq_getElem_cons hk]
    rw [List.getD_eq_getElem?_getD, List.getElem?_eq_getElem hk] at hc
    have hc : l[k] = c := hc
    rw [hc]
  conv => lhs; rw [e]
  rw [spl_cons h]
theorem take_next {c : UInt8} {l : List UInt8} {f k : Nat} (hf : f ≤ k) (hk : k < l.length) (h : c ∉ (l.drop f).take (k - f)) (hc : ¬ l.getD k 0 = c) : c ∉ (l.drop f).take (k + 1 - f) := by
  rw [show k + 1 - f = (k - f) + 1 by omega, List.take_add_one]
  intro h9
  rcases List.mem_append.1 h9 with h9 | h9
  · exact h h9
  · rw [List.getElem?_drop, show f + (k - f) = k by omega, List.getElem?_eq_getElem hk] at h9
    apply hc
    rw [List.getD_eq_getElem?_getD, List.getElem?_eq_getElem hk]
    simp at h9
    exact h9.symm
/-- how far Cut has come -/
structure CutAt (c : UInt8) (l : List UInt8) (k f : Nat) (ws : List (List UInt8)) : Prop where
  mid : k ≤ l.length → f ≤ k ∧ ws ++ spl c (l.drop f) = spl c l ∧ c ∉ (l.drop f).take (k - f)
  fin : k = l.length + 1 → ws = spl c l
set_option maxHeartbeats 4000000 in
theorem cut_any (c : UInt8) (l : List UInt8) (hl : l.length ≤ 100000) (w : World) :
    Calls Tryz.prog 69 #[.string ⟨l.toArray⟩, .int .u8 (c.toNat : Int)] w fun e w' => ∃ v, e = .returned v ∧ OwnV shStr w' w.heap.size 9 v (spl c l).length (spl c l) ∧ Ext w w' := by
  have hx := fun f k => str_mid l f k
  go_enter Tryz.func69, Tryz.ntmps69
  go_wp2_with fail
  go_loopw [5, 6, 7] (fun u i j wr => ∃ (V : Value) (f k m : Nat) (ws : List (List UInt8)), V = u ∧ i = .int .i64 f ∧ j = .int .i64 k ∧ k ≤ l.length + 1 ∧ f ≤ k ∧ m ≤ k ∧ Hid (OwnV shStr wr w.heap.size 9 V m ws) ∧ Hid (CutAt c l k f ws) ∧ Hid (Ext w wr)) (fun _ _ j _ => l.length + 1 - (intOf j).toNat)
  case atStart => exact ⟨_, 0, 0, 0, [], rfl, rfl, rfl, by omega, by omega, by omega, Lib.hid (OwnV.nil _ _ _ _), Lib.hid ⟨fun _ => ⟨by omega, rfl, by simp⟩, fun h => by omega⟩, Lib.hid (Ext.refl _)⟩
  case round =>
    obtain ⟨V, f, k, m, ws, rfl, rfl, rfl, hk, hfk, hmk, HV, HC, HE⟩ := hrel
    have q0 : (0 : Int) ≤ (f : Int) := by omega
    have q1 : (f : Int) ≤ (k : Int) := by omega
    have q9 : (0 : Int) ≤ (k : Int) := by omega
    by_cases h1 : k = l.length + 1
    · subst h1
      have HF := Lib.hid (HC.out.fin rfl)
      obtain rfl : m = ws.length := (OwnV.len HV.out).symm
      have hno : ¬ ((l.length : Int) + 1 ≤ (l.length : Int)) := by omega
      go_wp2_with fail
      go_ret
      exact ⟨V, rfl, by rw [← HF.out]; exact HV.out, HE.out⟩
    · obtain ⟨hf, hm, hn⟩ := HC.out.mid (by omega)
      have q2 : (k : Int) ≤ (l.length : Int) := by omega
      by_cases h2 : k = l.length
      · subst h2
        have HL := Lib.hid (spl_last hn)
        rw [HL.out] at hm
        have HM := Lib.hid hm
        clear hm hn HC HL hf
        go_wp2_with (at_builtin; go_loud (refine wpList_append_vecsB (S := shStr) (w := w) (m := 1) (xs := [(l.drop f).take (l.length - f)]) 113 9 (.string ⟨#[]⟩) 16 (by rfl) (by rfl) Tryz.underlying113 info_str (by rfl) (by omega) (by rfl) (by rfl) (OwnV.ext HV.out (by repeat (first | exact Ext.refl _ | refine Ext.alloc ?_ _))) (HE.out.trans (by repeat (first | exact Ext.refl _ | refine Ext.alloc ?_ _))) (Vec.lit2 (by simp) rfl rfl) (by omega) ?_; intro v' w6 hown6 hext6 hgr6))
        have HN := Lib.hid hown6
        clear hown6 hgr6
        go_roundw
        case rel => exact ⟨v', l.length + 1, l.length + 1, m + 1, _, rfl, by go_num, by go_num, by omega, by omega, by omega, HN, Lib.hid ⟨fun h => by omega, fun _ => HM.out⟩, hext6⟩
        case measure => simp [intOf] <;> omega
      · have q3 : (k : Int) < (l.length : Int) := by omega
        have h5 := str_at l k
        have q7 : ((k : Int) == (l.length : Int)) = false := by rw [beq_eq_false_iff_ne]; omega
        by_cases hc : l.getD k 0 = c
        · have HL := Lib.hid (spl_at hf (by omega) hn hc)
          rw [HL.out] at hm
          have HM := Lib.hid hm
          rw [hc] at h5
          clear hm hn HC HL hf hc
          go_wp2_with (at_builtin; go_loud (refine wpList_append_vecsB (S := shStr) (w := w) (m := 1) (xs := [(l.drop f).take (k - f)]) 113 9 (.string ⟨#[]⟩) 16 (by rfl) (by rfl) Tryz.underlying113 info_str (by rfl) (by omega) (by rfl) (by rfl) (OwnV.ext HV.out (by repeat (first | exact Ext.refl _ | refine Ext.alloc ?_ _))) (HE.out.trans (by repeat (first | exact Ext.refl _ | refine Ext.alloc ?_ _))) (Vec.lit2 (by simp) rfl rfl) (by omega) ?_; intro v' w6 hown6 hext6 hgr6))
          have HN := Lib.hid hown6
          clear hown6 hgr6
          go_roundw
          case rel => exact ⟨v', k + 1, k + 1, m + 1, _, rfl, by go_num, by go_num, by omega, by omega, by omega, HN, Lib.hid ⟨fun h => ⟨by omega, by rw [List.append_assoc]; exact HM.out, by simp⟩, fun h => by omega⟩, hext6⟩
          case measure => simp [intOf] <;> omega
        · have hne : (((l.getD k 0).toNat : Int) == (c.toNat : Int)) = false := by rw [beq_eq_false_iff_ne]; exact fun h => hc (UInt8.toNat_inj.1 (by omega))
          have HN := Lib.hid (take_next hf (by omega) hn hc)
          have HM := Lib.hid hm
          generalize l.getD k 0 = d at *
          clear hm hn HC hc
          go_wp2_with fail
          go_roundw
          case rel => exact ⟨V, f, k + 1, m, ws, rfl, rfl, by go_num, by omega, by omega, by omega, HV, Lib.hid ⟨fun h => ⟨by omega, HM.out, HN.out⟩, fun h => by omega⟩, HE⟩
          case measure => simp [intOf] <;> omega
end Go.Proofs.YtfbfkoeaihknoaaGreatDoor
/- The reference's end: the place behind a word or a group. -/
namespace Go.Proofs.YtfbfkoeaihknoaaGreatDoor
set_option maxRecDepth 100000
set_option maxRecDepth 100000
open Go.RowKit
theorem getD_at {s : List UInt8} {j : Nat} (hj : j < s.length) : s.drop j = s.getD j 0 :: s.drop (j + 1) := by
  rw [List.drop_eq_getElem_cons hj, List.getD_eq_getElem?_getD, List.getElem?_eq_getElem hj]
  rfl
theorem endP_stop {o : Int} {x : UInt8} {l : List UInt8} (o2 : Int) (h0 : o + (if x = 40 then 1 else 0) - (if x = 41 then 1 else 0) = o2) (h : o2 < 0 ∨ (o2 = 0 ∧ x = 32)) : endP o (x :: l) = ([], x :: l) := by
  rw [endP, h0]
  exact if_pos h
theorem endP_next {o : Int} {x : UInt8} {l : List UInt8} (o2 : Int) (h0 : o + (if x = 40 then 1 else 0) - (if x = 41 then 1 else 0) = o2) (h : ¬ (o2 < 0 ∨ (o2 = 0 ∧ x = 32))) : endP o (x :: l) = (x :: (endP o2 l).1, (endP o2 l).2) := by
  rw [endP, h0]
  exact if_neg h
set_option maxHeartbeats 4000000 in
theorem end_any (s : List UInt8) (hs : s.length ≤ 100000) (k : Nat) (hk : k ≤ s.length) (w : World) :
    Calls Tryz.prog 55 #[.string ⟨s.toArray⟩, .int .i64 (k : Int)] w fun e w' => e = .returned (.int .i64 ((k + (endP 0 (s.drop k)).1.length : Nat) : Int)) ∧ Ext w w' := by
  go_enter Tryz.func55, Tryz.ntmps55
  go_wp2_with fail
  go_loopw [1, 5] (fun i u wr => ∃ (j : Nat) (o : Int), i = .int .i64 j ∧ u = .int .i64 o ∧ j ≤ s.length ∧ 0 ≤ o ∧ o ≤ j ∧ Hid (j + (endP o (s.drop j)).1.length = k + (endP 0 (s.drop k)).1.length) ∧ Hid (Ext w wr)) (fun i _ _ => s.length - (intOf i).toNat)
  case atStart => exact ⟨k, 0, rfl, rfl, hk, by omega, by omega, Lib.hid rfl, Lib.hid (Ext.refl _)⟩
  case round =>
    obtain ⟨j, o, rfl, rfl, hj, ho0, ho1, HH, HE⟩ := hrel
    have q0 : (0 : Int) ≤ (j : Int) := by omega
    by_cases h1 : j < s.length
    · have q1 : (j : Int) < (s.length : Int) := by omega
      have h5 := str_at s j
      have hd := getD_at h1
      have HO := HH.out
      rw [hd] at HO
      have i1 := IntWalk.i64_in (o + 1) (by omega)
      have i2 := IntWalk.i64_in (o - 1) (by omega)
      generalize s.getD j 0 = x at *
      clear hd
      by_cases h40 : x = 40
      · subst h40
        have e0 := endP_next (l := s.drop (j + 1)) (o := o) (x := 40) (o + 1) (by simp) (by simp <;> omega)
        rw [e0] at HO
        have HN := Lib.hid (show j + 1 + (endP (o + 1) (s.drop (j + 1))).1.length = k + (endP 0 (s.drop k)).1.length from (by rw [← HO]; simp <;> omega))
        have g1 : ¬ (o + 1 < 0) := by omega
        have g2 : ((o + 1) == 0) = false := by rw [beq_eq_false_iff_ne]; omega
        clear HO e0
        go_wp2_with fail
        go_roundw
        case rel => exact ⟨j + 1, o + 1, by go_num, by go_num, by omega, by omega, by omega, HN, HE⟩
        case measure => simp [intOf] <;> omega
      · by_cases h41 : x = 41
        · subst h41
          by_cases hz : o = 0
          · subst hz
            have e0 := endP_stop (l := s.drop (j + 1)) (o := 0) (x := 41) (-1) (by simp) (.inl (by omega))
            rw [e0] at HO
            have HN := Lib.hid (show j = k + (endP 0 (s.drop k)).1.length from (by rw [← HO]; simp))
            clear HO e0
            go_wp2_with fail
            go_ret
            exact ⟨congrArg (fun x : Nat => Ending.returned (Value.int .i64 (x : Int))) HN.out, HE.out⟩
          · have e0 := endP_next (l := s.drop (j + 1)) (o := o) (x := 41) (o - 1) (by simp) (by simp <;> omega)
            rw [e0] at HO
            have HN := Lib.hid (show j + 1 + (endP (o - 1) (s.drop (j + 1))).1.length = k + (endP 0 (s.drop k)).1.length from (by rw [← HO]; simp <;> omega))
            have g1 : ¬ (o - 1 < 0) := by omega
            clear HO e0
            go_wp2_with fail
            all_goals
              go_roundw
              case rel => exact ⟨j + 1, o - 1, by go_num, by go_num, by omega, by omega, by omega, HN, HE⟩
              case measure => simp [intOf] <;> omega
        · have hx : o + (if x = 40 then 1 else 0) - (if x = 41 then 1 else 0) = o := by rw [if_neg h40, if_neg h41]; omega
          have b40 : ((x.toNat : Int) == 40) = false := by rw [beq_eq_false_iff_ne]; intro e; exact h40 (UInt8.toNat_inj.1 (by rw [show ((40 : UInt8).toNat) = 40 from rfl]; omega))
          have b41 : ((x.toNat : Int) == 41) = false := by rw [beq_eq_false_iff_ne]; intro e; exact h41 (UInt8.toNat_inj.1 (by rw [show ((41 : UInt8).toNat) = 41 from rfl]; omega))
          have g1 : ¬ (o < 0) := by omega
          by_cases hst : o = 0 ∧ x = 32
          · obtain ⟨rfl, rfl⟩ := hst
            have e0 := endP_stop (l := s.drop (j + 1)) (o := 0) (x := 32) 0 hx (.inr ⟨rfl, rfl⟩)
            rw [e0] at HO
            have HN := Lib.hid (show j = k + (endP 0 (s.drop k)).1.length from (by rw [← HO]; simp))
            clear HO e0 hx
            go_wp2_with fail
            go_ret
            exact ⟨congrArg (fun x : Nat => Ending.returned (Value.int .i64 (x : Int))) HN.out, HE.out⟩
          · have e0 := endP_next (l := s.drop (j + 1)) (o := o) (x := x) o hx (by rintro (h | h); omega; exact hst h)
            rw [e0] at HO
            have HN := Lib.hid (show j + 1 + (endP o (s.drop (j + 1))).1.length = k + (endP 0 (s.drop k)).1.length from (by rw [← HO]; simp <;> omega))
            clear HO e0 hx
            by_cases hz : o = 0
            · subst hz
              have b32 : ((x.toNat : Int) == 32) = false := by rw [beq_eq_false_iff_ne]; intro e; exact hst ⟨rfl, UInt8.toNat_inj.1 (by rw [show ((32 : UInt8).toNat) = 32 from rfl]; omega)⟩
              go_wp2_with fail
              go_roundw
              case rel => exact ⟨j + 1, 0, by go_num, rfl, by omega, by omega, by omega, HN, HE⟩
              case measure => simp [intOf] <;> omega
            · have bz : (o == 0) = false := by rw [beq_eq_false_iff_ne]; exact hz
              go_wp2_with fail
              go_roundw
              case rel => exact ⟨j + 1, o, by go_num, rfl, by omega, by omega, by omega, HN, HE⟩
              case measure => simp [intOf] <;> omega
    · obtain rfl : j = s.length := by omega
      have HN := Lib.hid (show s.length = k + (endP 0 (s.drop k)).1.length from (by rw [← HH.out, List.drop_length]; rfl))
      go_wp2_with fail
      go_ret
      exact ⟨congrArg (fun x : Nat => Ending.returned (Value.int .i64 (x : Int))) HN.out, HE.out⟩
end Go.Proofs.YtfbfkoeaihknoaaGreatDoor
/- Lists of terms in memory. -/
namespace Go.Proofs.YtfbfkoeaihknoaaGreatDoor
set_option maxRecDepth 100000
open Go.RowKit Go.ChangeShapes Go.WideShapes Go.Joins
/-- the cells from this place on hold these terms, one behind the other -/
def TAt (w : World) : Tms → Nat → Nat → Prop
  | .nil, _, _ => True
  | .cons N c g r, b, off => ∃ (A : Option Addr) (n cap : Nat), w.cell? ⟨b, off, none⟩ = some (.int .i64 N) ∧ w.cell? ⟨b, off + 1, none⟩ = some (.int .u8 c.k) ∧ w.cell? ⟨b, off + 2, none⟩ = some (.bool c.p) ∧
      w.cell? ⟨b, off + 3, none⟩ = some (.int .i64 c.a) ∧ w.cell? ⟨b, off + 4, none⟩ = some (.int .i64 c.b) ∧ w.cell? ⟨b, off + 5, none⟩ = some (.slice A n cap) ∧ (0 ≤ c.k ∧ c.k ≤ 255) ∧
      g.cnt = n ∧ n ≤ maxLen ∧ (0 < n → ∃ b' off', A = some ⟨b', off', none⟩ ∧ b' < w.heap.size ∧ TAt w g b' off') ∧ TAt w r b (off + 6)
/-- the slice with this address and length reads as these terms -/
def Tv (w : World) (A : Option Addr) (n : Nat) (t : Tms) : Prop := t.cnt = n ∧ n ≤ maxLen ∧ (0 < n → ∃ b off, A = some ⟨b, off, none⟩ ∧ b < w.heap.size ∧ TAt w t b off)
theorem TAt.ext {w w' : World} (hb : Ext w w') : ∀ {t : Tms} {b off : Nat}, b < w.heap.size → TAt w t b off → TAt w' t b off := by
  intro t
  induction t with
  | nil => intro b off _ _; trivial
  | cons N c g r ih1 ih2 =>
    intro b off hlt ⟨A, n, cap, h0, h1, h2, h3, h4, h5, hk, hn, hm, hg, hr⟩
    have hc : ∀ o, w'.cell? ⟨b, o, none⟩ = w.cell? ⟨b, o, none⟩ := fun o => Below.cell (p := ⟨b, o, none⟩) hb hlt
    refine ⟨A, n, cap, (hc _).trans h0, (hc _).trans h1, (hc _).trans h2, (hc _).trans h3, (hc _).trans h4, (hc _).trans h5, hk, hn, hm, fun h => ?_, ih2 hlt hr⟩
    obtain ⟨b', off', e, hlt', hg'⟩ := hg h
    exact ⟨b', off', e, Nat.lt_of_lt_of_le hlt' (Below.size hb), ih1 hlt' hg'⟩
theorem Tv.ext {w w' : World} {A : Option Addr} {n : Nat} {t : Tms} (h : Tv w A n t) (hb : Ext w w') : Tv w' A n t :=
  ⟨h.1, h.2.1, fun hn => by
    obtain ⟨b, off, e, hlt, hc⟩ := h.2.2 hn
    exact ⟨b, off, e, Nat.lt_of_lt_of_le hlt (Below.size hb), TAt.ext hb hlt hc⟩⟩
theorem Tv.none_ (w : World) (A : Option Addr) : Tv w A 0 .nil := ⟨rfl, by unfold maxLen; omega, fun h => absurd h (by omega)⟩
theorem cnt_nil {t : Tms} (h : t.cnt = 0) : t = .nil := by
  cases t with
  | nil => rfl
  | cons => simp [Tms.cnt] at h
/-- the first of some terms -/
theorem TAt.head {w : World} {N : Int} {c : St} {g r : Tms} {b off : Nat} (h : TAt w (.cons N c g r) b off) :
    ∃ (A : Option Addr) (n cap : Nat), w.cell? ⟨b, off, none⟩ = some (.int .i64 N) ∧ w.cell? ⟨b, off + 1, none⟩ = some (.int .u8 c.k) ∧ w.cell? ⟨b, off + 2, none⟩ = some (.bool c.p) ∧
      w.cell? ⟨b, off + 3, none⟩ = some (.int .i64 c.a) ∧ w.cell? ⟨b, off + 4, none⟩ = some (.int .i64 c.b) ∧ w.cell? ⟨b, off + 5, none⟩ = some (.slice A n cap) ∧ (0 ≤ c.k ∧ c.k ≤ 255) ∧ Tv w A n g ∧ TAt w r b (off + 6) := by
  obtain ⟨A, n, cap, h0, h1, h2, h3, h4, h5, hk, hn, hm, hg, hr⟩ := h
  exact ⟨A, n, cap, h0, h1, h2, h3, h4, h5, hk, ⟨hn, hm, hg⟩, hr⟩
section
variable {H : Type} {enc : TypeId × Value → H} {w : World} {base : Nat} {spare : Nat → Bool} {held : Bool}
theorem one_term {fuel : Nat} {cs : List Value} {y : DataW H × List MemPlace} (hl : cs.length = 6) (hy : DataW.trod enc Tryz.prog w base spare held fuel 48 cs = some y) :
    ∃ (N : Int) (c : St) (v : Value) (m : Nat) (z : DataW H × List MemPlace), cs = [.int .i64 N, .int .u8 c.k, .bool c.p, .int .i64 c.a, .int .i64 c.b, v] ∧ (0 ≤ c.k ∧ c.k ≤ 255) ∧ fuel = m + 1 ∧
      DataW.trod enc Tryz.prog w base spare held m 22 [v] = some z := by
  obtain ⟨xs, m, hfu, _, _, hxl, hel⟩ := DataW.trod_struct Tryz.underlying48 hy
  match cs, hl with
  | [c0, c1, c2, c3, c4, c5], _ =>
    match xs, hxl with
    | [y0, y1, y2], _ =>
      have C0 : Tryz.prog.cellsOf 5 = 1 := by kernel_rfl
      have C1 : Tryz.prog.cellsOf 4 = 1 := by kernel_rfl
      have C2 : Tryz.prog.cellsOf 3 = 1 := by kernel_rfl
      have C3 : Tryz.prog.cellsOf 39 = 4 := by kernel_rfl
      have C4 : Tryz.prog.cellsOf 22 = 1 := by kernel_rfl
      have h0 := hel 0 _ rfl
      have h1 := hel 1 _ rfl
      have h2 := hel 2 _ rfl
      simp [C2, C3, C4] at h0 h1 h2
      obtain ⟨N, e0, _, _⟩ := DataW.trod_int Tryz.underlying3 h0
      obtain ⟨ys, m', _, _, _, hyl, hel'⟩ := DataW.trod_struct Tryz.underlying39 h1
      match ys, hyl with
      | [z0, z1, z2, z3], _ =>
        have k0 := hel' 0 _ rfl
        have k1 := hel' 1 _ rfl
        have k2 := hel' 2 _ rfl
        have k3 := hel' 3 _ rfl
        simp [C0, C1, C2] at k0 k1 k2 k3
        obtain ⟨n0, e1, _, wf0⟩ := DataW.trod_int Tryz.underlying5 k0
        have hwf := bounds_u8 wf0
        obtain ⟨n1, e2, _⟩ := DataW.trod_bool Tryz.underlying4 k1
        obtain ⟨n2, e3, _⟩ := DataW.trod_int Tryz.underlying3 k2
        obtain ⟨n3, e4, _⟩ := DataW.trod_int Tryz.underlying3 k3
        simp at e0 e1 e2 e3 e4
        subst e0 e1 e2 e3 e4
        exact ⟨N, ⟨n0, n1, n2, n3⟩, c5, m, y2, rfl, hwf, hfu, h2⟩
theorem open_tms : ∀ (fuel : Nat) (v : Value) (y : DataW H × List MemPlace), DataW.trod enc Tryz.prog w base spare held fuel 22 [v] = some y → ∃ (A : Option Addr) (n cap : Nat) (t : Tms), v = .slice A n cap ∧ Tv w A n t := by
  intro fuel
  induction fuel using Nat.strongRecOn with
  | ind fuel ih =>
    intro v y h
    rcases DataW.trod_slice Tryz.underlying22 h with h0 | ⟨a, len, cap', elems, rest, m, hfu, hcs, _, hb, hl, hm, hlen, hel, _, _⟩
    · obtain ⟨h1, _⟩ := h0
      simp only [List.cons.injEq, and_true] at h1
      exact ⟨none, 0, 0, .nil, h1, Tv.none_ _ _⟩
    · simp only [List.cons.injEq, and_true] at hcs
      have hC : Tryz.prog.cellsOf 48 = 6 := by kernel_rfl
      rw [hC] at hel
      have one : ∀ i, i < len → ∃ (N : Int) (c : St) (A : Option Addr) (n cap : Nat) (g : Tms), (0 ≤ c.k ∧ c.k ≤ 255) ∧ Tv w A n g ∧ a.block < w.heap.size ∧
          ∀ j u, [Value.int .i64 N, .int .u8 c.k, .bool c.p, .int .i64 c.a, .int .i64 c.b, .slice A n cap][j]? = some u → w.cell? (a.add (i * 6 + j)) = some u := by
        intro i hi
        have he := hel i hi
        rw [List.getElem?_eq_getElem (by omega)] at he
        obtain ⟨cs', hc1, hc2⟩ := Option.bind_eq_some_iff.1 he
        obtain ⟨hbk, hc3, hc4⟩ := World.cells?_some hc1
        obtain ⟨N, c, v', m', z, rfl, hk, hf, hz⟩ := one_term hc3 hc2
        obtain ⟨A, n, cap, g, rfl, hg⟩ := ih m' (by omega) v' z hz
        refine ⟨N, c, A, n, cap, g, hk, hg, ?_, fun j u hu => ?_⟩
        · have h1 := World.block_lt_of_cell? w _ (hc4 0 (by omega))
          have e : ∀ (a : Addr) k, (a.add k).block = a.block := fun a k => by unfold Addr.add; split <;> rfl
          rw [e, e] at h1
          exact h1
        · have hj : j < 6 := (List.getElem?_eq_some_iff.1 hu).1
          rw [← Go.Deep.add_add, hc4 j hj]
          exact hu
      cases len with
      | zero => exact ⟨some a, 0, cap', .nil, hcs, Tv.none_ _ _⟩
      | succ len =>
        obtain ⟨N0, c0, A0, n0, cap0, g0, _, _, hbk, hu0⟩ := one 0 (by omega)
        have h1 := hu0 0 _ rfl
        rw [show a.add (0 * 6 + 0) = a by simp [Addr.add]] at h1
        have hs := spot_none h1
        obtain ⟨b, off, spot⟩ := a
        obtain rfl : spot = none := hs
        have key : ∀ k, k ≤ len + 1 → ∃ t : Tms, t.cnt = k ∧ TAt w t b (off + (len + 1 - k) * 6) := by
          intro k
          induction k with
          | zero => intro _; exact ⟨.nil, rfl, trivial⟩
          | succ k ihk =>
            intro hk
            obtain ⟨t, ht, hat⟩ := ihk (by omega)
            obtain ⟨N, c, A, n, cap, g, hkk, hg, _, hu⟩ := one (len + 1 - (k + 1)) (by omega)
            have hu' : ∀ j u, [Value.int .i64 N, .int .u8 c.k, .bool c.p, .int .i64 c.a, .int .i64 c.b, .slice A n cap][j]? = some u → w.cell? ⟨b, off + (len + 1 - (k + 1)) * 6 + j, none⟩ = some u := by
              intro j u h
              have := hu j u h
              rw [add_plain, ← Nat.add_assoc] at this
              exact this
            refine ⟨.cons N c g t, by simp [Tms.cnt, ht], A, n, cap, hu' 0 _ rfl, hu' 1 _ rfl, hu' 2 _ rfl, hu' 3 _ rfl, hu' 4 _ rfl, hu' 5 _ rfl, hkk, hg.1, hg.2.1, hg.2.2, ?_⟩
            rw [show off + (len + 1 - (k + 1)) * 6 + 6 = off + (len + 1 - k) * 6 by omega]
            exact hat
        obtain ⟨t, ht, hat⟩ := key (len + 1) (Nat.le_refl _)
        refine ⟨some ⟨b, off, none⟩, len + 1, cap', t, hcs, ht, by omega, fun _ => ⟨b, off, rfl, hbk, ?_⟩⟩
        simpa using hat
theorem open_tms_arg {r : Reach} {b0 : Nat} {v : Value} {d : DataW H} {p : List MemPlace} (hv : Value.okWide Tryz.prog w r b0 22 v) (h : DataW.Trod enc Tryz.prog w base spare held 22 v d p) :
    ∃ (A : Option Addr) (n cap : Nat) (t : Tms), v = .slice A n cap ∧ Tv w A n t := by
  obtain ⟨a0, len, cap, rfl⟩ := okWide_slice Tryz.underlying22 hv
  obtain ⟨fuel, hf⟩ := h
  exact open_tms fuel _ _ hf
end
end Go.Proofs.YtfbfkoeaihknoaaGreatDoor
/- The walks of the checks of terms: size. -/
namespace Go.Proofs.YtfbfkoeaihknoaaGreatDoor
set_option maxRecDepth 100000
open Go.RowKit Go.ChangeShapes Go.WideShapes Go.Joins
theorem cnt_cons {t : Tms} (h : 0 < t.cnt) : ∃ N c g r, t = .cons N c g r := by
  cases t with
  | nil => simp [Tms.cnt] at h
  | cons N c g r => exact ⟨N, c, g, r, rfl⟩
theorem cnt_size : ∀ t : Tms, t.cnt ≤ t.size := by
  intro t
  induction t with
  | nil => simp [Tms.cnt]
  | cons N c g r h1 h2 => simp [Tms.cnt, Tms.size]; omega
theorem depth_le : ∀ t : Tms, t.depth ≤ t.size := by
  intro t
  induction t with
  | nil => simp [Tms.depth, Tms.size]
  | cons N c g r h1 h2 => simp [Tms.depth, Tms.size]; omega
theorem run_max_t {P : Program} {w : World} (ts : Array TypeId) (t : TypeId) (x y : Int) : (Builtin.max_ ts t #[.int .i64 x, .int .i64 y]).run P w = .ok (.int .i64 (max x y)) w := by
  rw [run_max_int2]
  congr 2
  split <;> omega
theorem run_min_t {P : Program} {w : World} (ts : Array TypeId) (t : TypeId) (x y : Int) : (Builtin.min_ ts t #[.int .i64 x, .int .i64 y]).run P w = .ok (.int .i64 (min x y)) w := by
  rw [run_min_int2]
  congr 2
  split <;> omega
set_option maxHeartbeats 1000000 in
theorem size_any : ∀ (M : Nat), M ≤ 5000 → ∀ (t : Tms), t.size ≤ M → ∀ (A : Option Addr) (n cap : Nat) (w : World), Tv w A n t →
    Calls Tryz.prog 37 #[.slice A n cap] w fun e w' => e = .returned (.tuple #[.int .i64 (szM t), .int .i64 t.depth]) ∧ Ext w w' := by
  intro M
  induction M using Nat.strongRecOn with
  | ind M ih =>
    intro hM t ht A n cap w hv
    have HI := Lib.hid ih
    have HV := Lib.hid hv
    have hnm : n ≤ 5000 := by have h1 := hv.1; have h2 := cnt_size t; omega
    clear ih hv
    go_enter Tryz.func37, Tryz.ntmps37
    go_wp2_with fail
    go_loopw [2, 3, 10] (fun u d i wr => ∃ (k : Nat) (U : Int) (D : Nat) (rest : Tms), i = .int .i64 k ∧ u = .int .i64 U ∧ d = .int .i64 D ∧ rest.cnt + k = n ∧ rest.size ≤ M ∧ (0 ≤ U ∧ U ≤ 201) ∧ D ≤ 5000 ∧
      Hid (min (U + rest.size) 201 = szM t ∧ max D rest.depth = t.depth ∧ Ext w wr ∧ (0 < rest.cnt → ∃ b off, A = some ⟨b, off, none⟩ ∧ b < wr.heap.size ∧ TAt wr rest b (off + k * 6)))) (fun _ _ i _ => n - (intOf i).toNat)
    case atStart =>
      refine ⟨0, 0, 0, t, rfl, rfl, rfl, by have := HV.out.1; omega, ht, by omega, by omega, Lib.hid ⟨by simp [szM], by simp, Ext.refl _, fun h => ?_⟩⟩
      obtain ⟨h1, h2, h3⟩ := HV.out
      obtain ⟨b, off, e, hb, hc⟩ := h3 (by omega)
      exact ⟨b, off, e, hb, by simpa using hc⟩
    case round =>
      obtain ⟨k, U, D, rest, rfl, rfl, rfl, hcnt, hrs, ⟨hU0, hU1⟩, hD, HH⟩ := hrel
      by_cases hlt : 0 < rest.cnt
      · obtain ⟨N, c, g, r, rfl⟩ := cnt_cons hlt
        obtain ⟨b, off, rfl, hb1, hc⟩ := HH.out.2.2.2 hlt
        obtain ⟨A', n', cap', c0, c1, c2, c3, c4, c5, hkk, hg, hr⟩ := hc.head
        have hxr := HH.out.2.2.1
        simp only [Tms.cnt, Tms.size] at hcnt hrs
        have hkn : k < n := by omega
        have hz := World.block_lt_of_cell? wr _ c0
        have hcall := fun (w' : World) (h : Ext wr w') => HI.out (M - 1) (by omega) (by omega) g (by omega) A' n' cap' w' (hg.ext h)
        have HC := Lib.hid hcall
        clear hcall hc
        have hg0 : 0 ≤ szM g ∧ szM g ≤ 201 := by unfold szM; omega
        have hgs : min (g.size : Int) 201 = szM g := rfl
        have hgd := depth_le g
        have hsz : (Tms.cons N c g r).size = 1 + g.size + r.size := rfl
        have hdp : (Tms.cons N c g r).depth = max (g.depth + 1) r.depth := rfl
        have m1 : ∀ (ts : Array TypeId) (t : TypeId) (w : World), (Builtin.min_ ts t #[.int .i64 (U + 1 + szM g), .int .i64 201]).run Tryz.prog w = .ok (.int .i64 (min (U + 1 + szM g) 201)) w := fun ts t w => run_min_t ts t _ _
        have m2 : ∀ (ts : Array TypeId) (t : TypeId) (w : World), (Builtin.max_ ts t #[.int .i64 D, .int .i64 ((g.depth : Int) + 1)]).run Tryz.prog w = .ok (.int .i64 (max (D : Int) ((g.depth : Int) + 1))) w := fun ts t w => run_max_t ts t _ _
        go_wp2_with (go_at_call 37; ((with_reducible refine (HC.out _ (by repeat (first | exact Ext.refl _ | assumption | refine Ext.alloc ?_ _ | refine Ext.drew ?_ | refine Ext.drewN ?_ _ | refine Ext.trans ?_ (by assumption)))).mono ?_); rintro e w1 ⟨rfl, hq1⟩))
        go_roundw
        case rel =>
          have hxx : Ext wr w1 := by repeat (first | exact Ext.refl _ | assumption | refine Ext.alloc ?_ _ | refine Ext.drew ?_ | refine Ext.drewN ?_ _ | refine Ext.trans ?_ (by assumption))
          obtain ⟨e1, e2, e3, -⟩ := HH.out
          rw [hsz] at e1
          rw [hdp] at e2
          have q1 : min (min (U + 1 + szM g) 201 + (r.size : Int)) 201 = szM t := by rw [← e1, ← (show min (g.size : Int) 201 = szM g from rfl)]; omega
          have q2 : max (max D (g.depth + 1)) r.depth = t.depth := by rw [← e2]; omega
          have q3 : g.depth ≤ g.size := depth_le g
          have q4 : 0 ≤ szM g := hg0.1
          refine ⟨k + 1, min (U + 1 + szM g) 201, max D (g.depth + 1), r, by go_num, rfl, ?_, by omega, by omega, by omega, by omega, Lib.hid ⟨q1, q2, e3.trans hxx, fun h => ?_⟩⟩
          · rw [show ((max D (g.depth + 1) : Nat) : Int) = max (D : Int) ((g.depth : Int) + 1) by omega]
          · refine ⟨b, off, rfl, Nat.lt_of_lt_of_le hb1 (Below.size hxx), ?_⟩
            rw [show off + (k + 1) * 6 = off + k * 6 + 6 by omega]
            exact hr.ext hxx hb1
        case measure => simp [intOf]; omega
      · have hn0 : rest.cnt = 0 := by omega
        obtain rfl := cnt_nil hn0
        simp only [Tms.cnt] at hcnt
        obtain ⟨e1, e2, e3, -⟩ := HH.out
        simp only [Tms.size, Tms.depth] at e1 e2
        obtain rfl : k = n := by omega
        go_wp2
        go_ret2
        have q1 : szM t = U := by rw [← e1]; omega
        have q2 : t.depth = D := by rw [← e2]; omega
        rw [q1, q2]
        exact ⟨rfl, by repeat (first | exact Ext.refl _ | assumption | refine Ext.alloc ?_ _ | refine Ext.drew ?_ | refine Ext.drewN ?_ _ | refine Ext.trans ?_ (by assumption))⟩
end Go.Proofs.YtfbfkoeaihknoaaGreatDoor
/- The walks of the reference's Deep. -/
namespace Go.Proofs.YtfbfkoeaihknoaaGreatDoor
set_option maxRecDepth 100000
open Go.RowKit Go.ChangeShapes Go.WideShapes Go.Joins
set_option maxHeartbeats 1000000 in
theorem deep_any : ∀ (M : Nat), M ≤ 5000 → ∀ (t : Tms), t.size ≤ M → ∀ (A : Option Addr) (n cap : Nat) (w : World), Tv w A n t →
    Calls Tryz.prog 48 #[.slice A n cap] w fun e w' => e = .returned (.int .i64 t.depth) ∧ Ext w w' := by
  intro M
  induction M using Nat.strongRecOn with
  | ind M ih =>
    intro hM t ht A n cap w hv
    have HI := Lib.hid ih
    have HV := Lib.hid hv
    have hnm : n ≤ 5000 := by have h1 := hv.1; have h2 := cnt_size t; omega
    clear ih hv
    go_enter Tryz.func48, Tryz.ntmps48
    go_wp2_with fail
    go_loopw [3, 4] (fun d i wr => ∃ (k : Nat) (D : Nat) (rest : Tms), i = .int .i64 k ∧ d = .int .i64 D ∧ rest.cnt + k = n ∧ rest.size ≤ M ∧ D ≤ 5000 ∧
      Hid (max D rest.depth = t.depth ∧ Ext w wr ∧ (0 < rest.cnt → ∃ b off, A = some ⟨b, off, none⟩ ∧ b < wr.heap.size ∧ TAt wr rest b (off + k * 6)))) (fun _ i _ => n - (intOf i).toNat)
    case atStart =>
      refine ⟨0, 0, t, rfl, rfl, by have := HV.out.1; omega, ht, by omega, Lib.hid ⟨by simp, Ext.refl _, fun h => ?_⟩⟩
      obtain ⟨h1, h2, h3⟩ := HV.out
      obtain ⟨b, off, e, hb, hc⟩ := h3 (by omega)
      exact ⟨b, off, e, hb, by simpa using hc⟩
    case round =>
      obtain ⟨k, D, rest, rfl, rfl, hcnt, hrs, hD, HH⟩ := hrel
      by_cases hlt : 0 < rest.cnt
      · obtain ⟨N, c, g, r, rfl⟩ := cnt_cons hlt
        obtain ⟨b, off, rfl, hb1, hc⟩ := HH.out.2.2 hlt
        obtain ⟨A', n', cap', c0, c1, c2, c3, c4, c5, hkk, hg, hr⟩ := hc.head
        have hxr := HH.out.2.1
        simp only [Tms.cnt, Tms.size] at hcnt hrs
        have hkn : k < n := by omega
        have hz := World.block_lt_of_cell? wr _ c0
        have hcall := fun (w' : World) (h : Ext wr w') => HI.out (M - 1) (by omega) (by omega) g (by omega) A' n' cap' w' (hg.ext h)
        have HC := Lib.hid hcall
        clear hcall hc
        have hgd := depth_le g
        have hdp : (Tms.cons N c g r).depth = max (g.depth + 1) r.depth := rfl
        have m2 : ∀ (ts : Array TypeId) (t : TypeId) (w : World), (Builtin.max_ ts t #[.int .i64 D, .int .i64 (1 + (g.depth : Int))]).run Tryz.prog w = .ok (.int .i64 (max (D : Int) (1 + (g.depth : Int)))) w := fun ts t w => run_max_t ts t _ _
        go_wp2_with (go_at_call 48; ((with_reducible refine (HC.out _ (by repeat (first | exact Ext.refl _ | assumption | refine Ext.alloc ?_ _ | refine Ext.drew ?_ | refine Ext.drewN ?_ _ | refine Ext.trans ?_ (by assumption)))).mono ?_); rintro e w1 ⟨rfl, hq1⟩))
        go_roundw
        case rel =>
          have hxx : Ext wr w1 := by repeat (first | exact Ext.refl _ | assumption | refine Ext.alloc ?_ _ | refine Ext.drew ?_ | refine Ext.drewN ?_ _ | refine Ext.trans ?_ (by assumption))
          obtain ⟨e2, e3, -⟩ := HH.out
          rw [hdp] at e2
          have q2 : max (max D (g.depth + 1)) r.depth = t.depth := by rw [← e2]; omega
          refine ⟨k + 1, max D (g.depth + 1), r, by go_num, ?_, by omega, by omega, by omega, Lib.hid ⟨q2, e3.trans hxx, fun h => ?_⟩⟩
          · rw [show ((max D (g.depth + 1) : Nat) : Int) = max (D : Int) (1 + (g.depth : Int)) by omega]
          · refine ⟨b, off, rfl, Nat.lt_of_lt_of_le hb1 (Below.size hxx), ?_⟩
            rw [show off + (k + 1) * 6 = off + k * 6 + 6 by omega]
            exact hr.ext hxx hb1
        case measure => simp [intOf]; omega
      · have hn0 : rest.cnt = 0 := by omega
        obtain rfl := cnt_nil hn0
        simp only [Tms.cnt] at hcnt
        obtain ⟨e2, e3, -⟩ := HH.out
        simp only [Tms.depth] at e2
        obtain rfl : k = n := by omega
        go_wp2
        go_ret
        have q2 : t.depth = D := by rw [← e2]; omega
        rw [q2]
        exact ⟨rfl, by repeat (first | exact Ext.refl _ | assumption | refine Ext.alloc ?_ _ | refine Ext.drew ?_ | refine Ext.drewN ?_ _ | refine Ext.trans ?_ (by assumption))⟩
end Go.Proofs.YtfbfkoeaihknoaaGreatDoor
/- The walk of the reference's Terms. -/
namespace Go.Proofs.YtfbfkoeaihknoaaGreatDoor
set_option maxRecDepth 100000
open Go.RowKit Go.ChangeShapes Go.WideShapes Go.Joins
set_option maxHeartbeats 1000000 in
theorem terms_any : ∀ (M : Nat), M ≤ 5000 → ∀ (t : Tms), t.size ≤ M → ∀ (A : Option Addr) (n cap : Nat) (w : World), Tv w A n t →
    Calls Tryz.prog 47 #[.slice A n cap] w fun e w' => e = .returned (.int .i64 (szM t)) ∧ Ext w w' := by
  intro M
  induction M using Nat.strongRecOn with
  | ind M ih =>
    intro hM t ht A n cap w hv
    have HI := Lib.hid ih
    have HV := Lib.hid hv
    have hnm : n ≤ 5000 := by have h1 := hv.1; have h2 := cnt_size t; omega
    clear ih hv
    go_enter Tryz.func47, Tryz.ntmps47
    go_wp2_with fail
    go_loopw [3, 4] (fun u i wr => ∃ (k : Nat) (U : Int) (rest : Tms), i = .int .i64 k ∧ u = .int .i64 U ∧ rest.cnt + k = n ∧ rest.size ≤ M ∧ (0 ≤ U ∧ U ≤ 500) ∧
      Hid (min (U + rest.size) 201 = szM t ∧ Ext w wr ∧ (0 < rest.cnt → ∃ b off, A = some ⟨b, off, none⟩ ∧ b < wr.heap.size ∧ TAt wr rest b (off + k * 6)))) (fun _ i _ => n - (intOf i).toNat)
    case atStart =>
      refine ⟨0, 0, t, rfl, rfl, by have := HV.out.1; omega, ht, by omega, Lib.hid ⟨by simp [szM], Ext.refl _, fun h => ?_⟩⟩
      obtain ⟨h1, h2, h3⟩ := HV.out
      obtain ⟨b, off, e, hb, hc⟩ := h3 (by omega)
      exact ⟨b, off, e, hb, by simpa using hc⟩
    case round =>
      obtain ⟨k, U, rest, rfl, rfl, hcnt, hrs, ⟨hU0, hU1⟩, HH⟩ := hrel
      by_cases hlt : 0 < rest.cnt
      · obtain ⟨N, c, g, r, rfl⟩ := cnt_cons hlt
        obtain ⟨b, off, rfl, hb1, hc⟩ := HH.out.2.2 hlt
        obtain ⟨A', n', cap', c0, c1, c2, c3, c4, c5, hkk, hg, hr⟩ := hc.head
        have hxr := HH.out.2.1
        simp only [Tms.cnt, Tms.size] at hcnt hrs
        have hkn : k < n := by omega
        have hz := World.block_lt_of_cell? wr _ c0
        have hcall := fun (w' : World) (h : Ext wr w') => HI.out (M - 1) (by omega) (by omega) g (by omega) A' n' cap' w' (hg.ext h)
        have HC := Lib.hid hcall
        clear hcall hc
        have hg0 : 0 ≤ szM g ∧ szM g ≤ 201 := by unfold szM; omega
        have hsz : (Tms.cons N c g r).size = 1 + g.size + r.size := rfl
        have m1 : ∀ (ts : Array TypeId) (t : TypeId) (w : World), (Builtin.min_ ts t #[.int .i64 U, .int .i64 201]).run Tryz.prog w = .ok (.int .i64 (min U 201)) w := fun ts t w => run_min_t ts t _ _
        by_cases hU : U ≤ 200
        · go_wp2_with (go_at_call 47; ((with_reducible refine (HC.out _ (by repeat (first | exact Ext.refl _ | assumption | refine Ext.alloc ?_ _ | refine Ext.drew ?_ | refine Ext.drewN ?_ _ | refine Ext.trans ?_ (by assumption)))).mono ?_); rintro e w1 ⟨rfl, hq1⟩))
          go_roundw
          case rel =>
            have hxx : Ext wr w1 := by repeat (first | exact Ext.refl _ | assumption | refine Ext.alloc ?_ _ | refine Ext.drew ?_ | refine Ext.drewN ?_ _ | refine Ext.trans ?_ (by assumption))
            obtain ⟨e2, e3, -⟩ := HH.out
            rw [hsz] at e2
            have q2 : min (U + 1 + szM g + (r.size : Int)) 201 = szM t := by rw [← e2, ← (show min (g.size : Int) 201 = szM g from rfl)]; omega
            refine ⟨k + 1, U + 1 + szM g, r, by go_num, by go_num, by omega, by omega, by omega, Lib.hid ⟨q2, e3.trans hxx, fun h => ?_⟩⟩
            refine ⟨b, off, rfl, Nat.lt_of_lt_of_le hb1 (Below.size hxx), ?_⟩
            rw [show off + (k + 1) * 6 = off + k * 6 + 6 by omega]
            exact hr.ext hxx hb1
          case measure => simp [intOf]; omega
        · have hU' : ¬ U ≤ 200 := hU
          obtain ⟨e2, e3, -⟩ := HH.out
          have q2 : szM t = min U 201 := by rw [← e2]; omega
          go_wp2_with fail
          go_ret
          exact ⟨rfl, by repeat (first | exact Ext.refl _ | assumption | refine Ext.alloc ?_ _ | refine Ext.drew ?_ | refine Ext.drewN ?_ _ | refine Ext.trans ?_ (by assumption))⟩
      · have hn0 : rest.cnt = 0 := by omega
        obtain rfl := cnt_nil hn0
        simp only [Tms.cnt] at hcnt
        obtain ⟨e2, e3, -⟩ := HH.out
        simp only [Tms.size] at e2
        have m1 : ∀ (ts : Array TypeId) (t : TypeId) (w : World), (Builtin.min_ ts t #[.int .i64 U, .int .i64 201]).run Tryz.prog w = .ok (.int .i64 (min U 201)) w := fun ts t w => run_min_t ts t _ _
        obtain rfl : k = n := by omega
        have q2 : szM t = min U 201 := by rw [← e2]; omega
        by_cases hU : U ≤ 200
        all_goals
          go_wp2_with fail
          go_ret
          first | exact ⟨rfl, by repeat (first | exact Ext.refl _ | assumption | refine Ext.alloc ?_ _ | refine Ext.drew ?_ | refine Ext.drewN ?_ _ | refine Ext.trans ?_ (by assumption))⟩ | (rw [q2]; exact ⟨rfl, by repeat (first | exact Ext.refl _ | assumption | refine Ext.alloc ?_ _ | refine Ext.drew ?_ | refine Ext.drewN ?_ _ | refine Ext.trans ?_ (by assumption))⟩) | (refine ⟨by rw [q2]; rfl, by repeat (first | exact Ext.refl _ | assumption | refine Ext.alloc ?_ _ | refine Ext.drew ?_ | refine Ext.drewN ?_ _ | refine Ext.trans ?_ (by assumption))⟩) | trace_state
end Go.Proofs.YtfbfkoeaihknoaaGreatDoor
