/- The limits and errors of charts. -/
import Derived.Test.YtjjhoonkooihjaaGreatDoorG16
import Derived.Test.YtjjhoonkooihjaaGreatDoorG12
import Derived.Test.YtjjhoonkooihjaaGreatDoorG04
import Derived.Test.YtjjhoonkooihjaaGreatDoorCards
import Derived.Deep.CutRange
namespace Go.Proofs.YtjjhoonkooihjaaGreatDoor
set_option maxRecDepth 100000
set_option maxRecDepth 100000
open Go.ChangeShapes Go.WideShapes Go.ChangeAt Go.RowKit Go.Joins
section
variable {P : Program} {ops : Array Oper} {rest : List Oper} {o : Oper} {a : Act} {K : Act → World → Prop} {Q : Exit → Act → World → Prop} {E : Prop} {w wx : World}
theorem upon_make_own (T e : TypeId) (z : Value) (size bytes : Nat) (v : Int) (n B : Nat) (hv : v = (n : Int)) (ht : P.underlying T = some (.slice e)) (hinfo : (P.info? e).map (fun i => (i.zero, i.size, i.bytes)) = some (some z, size, bytes))
    (hn : n ≤ 1000000) (hby : bytes ≤ 1000) (hB : B ≤ wx.heap.size)
    (h : ∀ w1, Hid (w1.ownsRow B e size (.slice (some ⟨wx.heap.size, 0, none⟩) n n) n (madeCells z.cells (n * size)).toList) → Hid (Ext wx w1) → wx.heap.size < w1.heap.size → K (a.put o.dst (.slice (some ⟨wx.heap.size, 0, none⟩) n n)) w1) :
    Oper.upon P o a K Q ((Sem.run P (Instr.makeSlice T (.int .i64 v) (.int .i64 v)) wx).andThen fun a w' => Result.ok (Next.value a) w') := by
  subst hv
  obtain ⟨i0, hi, hz0, hz1, hz2⟩ := info_parts hinfo
  obtain ⟨w', hrun, r1, r2⟩ := run_make_full (P := P) wx B T e i0 z size ht hi hz0 hz1 .i64 .i64 n (by rw [hz2]; have := Nat.mul_le_mul hby hn; omega) (by unfold maxLen; omega) hB
  rw [hrun]
  refine h w' (Lib.hid r1) (Lib.hid (But.ext_none r2)) ?_
  obtain ⟨_, h2⟩ := own_blk r1 wx.heap.size (by simp [Value.ownBlock])
  exact h2
theorem gate_make {T : TypeId} {x y : Value} {f : Value → World → Result Next} (h : Oper.upon P o a K Q ((Sem.run P (Instr.makeSlice T x y) wx).andThen f)) : Oper.upon P o a K Q ((Sem.run P (Instr.makeSlice T x y) wx).andThen f) := h
end
/-- a new box that may still be written -/
def FreshB (lo : Nat) (w : World) (p : Nat) (u0 u1 : Value) : Prop := w.cell? ⟨p, 0, none⟩ = some u0 ∧ w.cell? ⟨p, 1, none⟩ = some u1 ∧ w.frozen? ⟨p, 0, none⟩ = false ∧ w.frozen? ⟨p, 1, none⟩ = false ∧ p < w.heap.size ∧ lo ≤ p
theorem FreshB.mk_ {lo : Nat} {W w' : World} {u0 u1 : Value} {t : TypeId} (h : Ext (W.alloc (.cells #[u0, u1] t)) w') (hlo : lo ≤ W.heap.size) : FreshB lo w' W.heap.size u0 u1 := by
  obtain ⟨hc, hf, hz⟩ := h.facts
  refine ⟨?_, ?_, ?_, ?_, hz _ (by simp), hlo⟩
  · rw [hc _ _ (by simp)]; simp [go_sem]
  · rw [hc _ _ (by simp)]; simp [go_sem]
  · rw [hf _ _ (by simp)]; simp [go_sem]
  · rw [hf _ _ (by simp)]; simp [go_sem]
theorem FreshB.mkd {lo : Nat} {W w' : World} {u0 u1 : Value} {t : TypeId} (h : Ext ((W.alloc (.cells #[u0, u1] t)).drew) w') (hlo : lo ≤ W.heap.size) : FreshB lo w' W.heap.size u0 u1 := FreshB.mk_ (t := t) (((Ext.refl _).drew).trans h) hlo
theorem FreshB.ext {lo : Nat} {w w' : World} {p : Nat} {u0 u1 : Value} (h : FreshB lo w p u0 u1) (hb : Ext w w') : FreshB lo w' p u0 u1 := by
  obtain ⟨h0, h1, h2, h3, h4, h5⟩ := h
  obtain ⟨hc, hf, hz⟩ := hb.facts
  exact ⟨(hc _ _ h4).trans h0, (hc _ _ h4).trans h1, (hf _ _ h4).trans h2, (hf _ _ h4).trans h3, hz _ h4, h5⟩
theorem made_rows (n : Nat) : (madeCells #[Value.bool false, Value.slice none 0 0] (n * 2)).toList = (List.replicate n raw0).flatMap shRaw.cells := by
  induction n with
  | zero => simp [madeCells]
  | succ n ih =>
    rw [List.replicate_succ', List.flatMap_append, ← ih]
    unfold madeCells
    rw [show (n + 1) * 2 = n * 2 + 1 + 1 by omega]
    simp only [Array.toList_map, Array.toList_range, List.range_succ, List.map_append, List.append_assoc, List.map_cons, List.map_nil]
    congr 1
    have e1 : n * 2 % 2 = 0 := by omega
    have e2 : (n * 2 + 1) % 2 = 1 := by omega
    show [#[Value.bool false, Value.slice none 0 0][n * 2 % 2]!] ++ [#[Value.bool false, Value.slice none 0 0][(n * 2 + 1) % 2]!] = _
    rw [e1, e2]
    rfl
theorem rws_made {w : World} {B n c : Nat} {e : TypeId} {A : Option Addr} (h : w.ownsRow B e 2 (.slice A n c) n (madeCells #[Value.bool false, Value.slice none 0 0] (n * 2)).toList) (hn : n ≤ 1000 := by omega) : Rws w (fun _ => True) A n (List.replicate n ro0) := by
  rw [made_rows] at h
  obtain ⟨A', c', e1, hv, -⟩ := own_vecB (show OwnV shRaw w B e (.slice A n c) n (List.replicate n raw0) from h)
  cases e1
  refine ⟨by unfold maxLen; omega, _, hv, fun _ _ _ _ => trivial, by simp, fun k hk => ?_⟩
  have e1 : (List.replicate n raw0).getD k raw0 = raw0 := by
    rw [List.getD_eq_getElem?_getD]
    simp at hk
    simp [hk]
  have e2 : (List.replicate n ro0).getD k ro0 = ro0 := by
    rw [List.getD_eq_getElem?_getD]
    simp at hk
    simp [hk]
  rw [e1, e2]
  exact ⟨rfl, Vec.none_ _ _ _, by unfold maxLen; exact Nat.zero_le _, bytes_ok rfl, fun h => absurd h (by decide)⟩
/-- a row of one stitch, written out -/
theorem rws_lit {w : World} {t1 t2 : TypeId} {g : Nat} {c1 c2 : Array Value} (s : St) (b : Bool) (hg : g = w.heap.size + 1) (h1 : c1 = (stc s).toArray) (h2 : c2 = #[.bool b, .slice (some ⟨w.heap.size, 0, none⟩) 1 1]) (hs : 0 ≤ s.k ∧ s.k ≤ 255) :
    Rws ((w.alloc (.cells c1 t1)).alloc (.cells c2 t2)) (fun _ => True) (some ⟨g, 0, none⟩) 1 [⟨b, [s]⟩] := by
  subst hg
  subst h1
  subst h2
  have hv : Vec shSt (w.alloc (.cells (stc s).toArray t1)) (some ⟨w.heap.size, 0, none⟩) 1 [s] := Vec.lit2 rfl (by simp [shSt]) rfl
  refine ⟨by unfold maxLen; decide, [⟨b, some ⟨w.heap.size, 0, none⟩, 1, 1⟩], Vec.lit2 (by simp) rfl rfl, fun _ _ _ _ => trivial, rfl, fun k hk => ?_⟩
  obtain rfl : k = 0 := by simp at hk; omega
  have hby : Bytes [s] := bytes_of fun x hx => by
    obtain rfl : x = s := by simpa using hx
    exact hs
  exact ⟨rfl, hv.ext ((Ext.refl _).alloc _), (show (1 : Nat) ≤ maxLen by unfold maxLen; decide), hby, fun _ _ _ _ => trivial⟩
theorem cface_x {l : List Ro} {A : Option Addr} {m c : Nat} {w : World} (s x j : Int) (hr : Rws w (fun _ => True) A m l) (hE : faceE s l j = x) (hx : x ≠ 0) :
    Calls Tryz.prog 20 #[.agg #[.int .i64 s, .slice A m c], .int .i64 j] w fun e w' => ∃ (A' : Option Addr) (n' c' : Nat), e = .returned (.tuple #[.slice A' n' c', .int .i64 x]) ∧ Ext w w' := by
  refine (cface_any s j A m c l w hr).mono ?_
  rintro e w' ⟨A', n', c', rfl, h1, h2⟩
  rw [hE]
  exact ⟨A', n', c', rfl, h1⟩
theorem cpart_x {l : List Ro} {A : Option Addr} {m c : Nat} {w : World} (s i j x : Int) (hr : Rws w (fun _ => True) A m l) (hc : m ≤ c) (hE : partE s l i j = x) (hx : x ≠ 0) :
    Calls Tryz.prog 26 #[.agg #[.int .i64 s, .slice A m c], .int .i64 i, .int .i64 j] w fun e w' => ∃ (A' : Option Addr) (n' c' : Nat), e = .returned (.tuple #[.agg #[.int .i64 0, .slice A' n' c'], .int .i64 x]) ∧ Ext w w' := by
  refine (cpart_any s i j A m c l w hr hc).mono ?_
  rintro e w' ⟨A', n', c', rfl, h1, h2⟩
  have h3 : partS s l i j = 0 := by rw [partS, if_neg (by rw [hE]; exact hx)]
  rw [hE, h3]
  exact ⟨A', n', c', rfl, h1⟩
theorem cjoin_x {la lb : List Ro} {A B : Option Addr} {m n c d : Nat} {w : World} (s t x : Int) (ha : Rws w (fun _ => True) A m la) (hb : Rws w (fun _ => True) B n lb) (hE : joinE s la t lb = x) (hx : x ≠ 0) :
    Calls Tryz.prog 27 #[.agg #[.int .i64 s, .slice A m c], .agg #[.int .i64 t, .slice B n d]] w fun e w' => ∃ (A' : Option Addr) (n' c' : Nat), e = .returned (.tuple #[.agg #[.int .i64 0, .slice A' n' c'], .int .i64 x]) ∧ Ext w w' := by
  refine (cjoin_any s t A B m n c d la lb w ha hb).mono ?_
  rintro e w' ⟨A', n', c', rfl, h1, h2⟩
  rw [hE, if_neg hx]
  exact ⟨A', n', c', rfl, h1⟩
abbrev R1 : List Ro := [⟨false, [⟨1, false, 0, 0⟩]⟩]
abbrev R0 : List Ro := [⟨false, [⟨0, false, 0, 0⟩]⟩]
def badT : List (List UInt8) := [[], [115, 116, 97, 114, 116, 32, 48], [115, 116, 97, 114, 116, 32, 48, 48, 10], [115, 116, 97, 114, 116, 32, 49, 10, 102, 114, 111, 110, 116, 32, 10], [115, 116, 97, 114, 116, 32, 49, 10, 102, 114, 111, 110, 116, 10], [115, 116, 97, 114, 116, 32, 49, 10, 102, 114, 111, 110, 116, 32, 107], [115, 116, 97, 114, 116, 32, 49, 10, 115, 105, 100, 101, 32, 107, 10], [115, 116, 97, 114, 116, 32, 50, 48, 49, 10], [115, 116, 97, 114, 116, 32, 49, 10, 10], [83, 116, 97, 114, 116, 32, 49, 10], [115, 116, 97, 114, 116, 32, 49, 10, 102, 114, 111, 110, 116, 32, 107, 50, 10], [115, 116, 97, 114, 116, 32, 49, 10, 98, 97, 99, 107, 32, 32, 107, 10]]
theorem badT_all : badT.all (fun s => decide (chartP s = none) && decide (s.length ≤ 100)) = true := by decide +kernel
theorem badT_at {k : Nat} (hk : k < 12) : chartP (badT.getD k []) = none ∧ (badT.getD k []).length ≤ 1000000 := by
  have h := List.all_eq_true.1 badT_all (badT.getD k []) (by
    rw [List.getD_eq_getElem?_getD, List.getElem?_eq_getElem (by exact hk)]
    exact List.getElem_mem _)
  simp only [Bool.and_eq_true, decide_eq_true_eq] at h
  exact ⟨h.1, by omega⟩
set_option maxHeartbeats 8000000 in
theorem chartNames_walk (w : World) (hg : Glob w) : Calls Tryz.prog 7 #[] w fun e w' => e = .returned (.bool true) ∧ Ext w w' := by
  have HG := Lib.hid hg
  clear hg
  have F1 := Lib.hid (show chkC 2 R1 = 26 by decide +kernel)
  have F2 := Lib.hid (show chkC (-1) [] = 8 by decide +kernel)
  have F3 := Lib.hid (show chkC 201 [] = 8 by decide +kernel)
  have F4 := Lib.hid (show chkC 0 (List.replicate 101 ro0) = 4 by decide +kernel)
  have F5 := Lib.hid (show chkC 1 R0 = 8 by decide +kernel)
  have F6 := Lib.hid (show chkC 0 (List.replicate 100 ro0) = 0 by decide +kernel)
  have F7 := Lib.hid (show faceE 1 R1 1 = 2 by decide +kernel)
  have F8 := Lib.hid (show partE 1 R1 1 0 = 2 by decide +kernel)
  have F9 := Lib.hid (show partE 1 R1 0 2 = 2 by decide +kernel)
  have F10 := Lib.hid (show joinE 1 R1 2 [] = 26 by decide +kernel)
  have F11 := Lib.hid (show joinE 0 (List.replicate 60 ro0) 0 (List.replicate 41 ro0) = 4 by decide +kernel)
  have F12 := Lib.hid (show chartP [115, 116, 97, 114, 116, 32, 48, 10] = some (0, []) by decide +kernel)
  have hs0 : 0 ≤ (⟨0, false, 0, 0⟩ : St).k ∧ (⟨0, false, 0, 0⟩ : St).k ≤ 255 := by decide
  go_enter Tryz.func7, Tryz.ntmps7
  go_upto_region 2 with (fail)
  have HB := Lib.hid (show Ext w ((w.alloc (.cells #[.int .u8 1, .bool false, .int .i64 0, .int .i64 0] 54)).alloc (.cells #[.bool false, .slice (some ⟨w.heap.size, 0, none⟩) 1 1] 46)) from ((Ext.refl w).alloc _).alloc _)
  have HK := Lib.hid (rws_lit (w := w) (t1 := 54) (t2 := 46) (g := w.heap.size + 1) (c1 := #[.int .u8 1, .bool false, .int .i64 0, .int .i64 0]) (c2 := #[.bool false, .slice (some ⟨w.heap.size, 0, none⟩) 1 1]) ⟨1, false, 0, 0⟩ false rfl rfl rfl (by decide))
  go_upto_region 12 with (first
    | (go_at_call 25; (first | ((with_reducible refine (ccheck_any 2 _ 1 1 R1 _ (HK.out.ext (by repeat (first | exact Ext.refl _ | refine Ext.drew ?_ | refine Ext.drewN ?_ _ | refine Ext.alloc ?_ _)))).mono ?_); rintro e w9 ⟨rfl, hq⟩; rw [F1.out]; replace HK := Lib.hid (HK.out.ext (Ext.trans (by repeat (first | exact Ext.refl _ | refine Ext.drew ?_ | refine Ext.drewN ?_ _ | refine Ext.alloc ?_ _)) hq)); replace HB := Lib.hid (HB.out.trans (Ext.trans (by repeat (first | exact Ext.refl _ | refine Ext.drew ?_ | refine Ext.drewN ?_ _ | refine Ext.alloc ?_ _)) hq)); clear hq) | ((with_reducible refine (ccheck_any (-1) none 0 0 [] _ (Rws.none_ _ _ _)).mono ?_); rintro e w9 ⟨rfl, hq⟩; rw [F2.out]; replace HK := Lib.hid (HK.out.ext (Ext.trans (by repeat (first | exact Ext.refl _ | refine Ext.drew ?_ | refine Ext.drewN ?_ _ | refine Ext.alloc ?_ _)) hq)); replace HB := Lib.hid (HB.out.trans (Ext.trans (by repeat (first | exact Ext.refl _ | refine Ext.drew ?_ | refine Ext.drewN ?_ _ | refine Ext.alloc ?_ _)) hq)); clear hq) | ((with_reducible refine (ccheck_any 201 none 0 0 [] _ (Rws.none_ _ _ _)).mono ?_); rintro e w9 ⟨rfl, hq⟩; rw [F3.out]; replace HK := Lib.hid (HK.out.ext (Ext.trans (by repeat (first | exact Ext.refl _ | refine Ext.drew ?_ | refine Ext.drewN ?_ _ | refine Ext.alloc ?_ _)) hq)); replace HB := Lib.hid (HB.out.trans (Ext.trans (by repeat (first | exact Ext.refl _ | refine Ext.drew ?_ | refine Ext.drewN ?_ _ | refine Ext.alloc ?_ _)) hq)); clear hq) | ((with_reducible refine (ccheck_any 0 _ 101 101 (List.replicate 101 ro0) _ (HM1.out.ext (by repeat (first | exact Ext.refl _ | refine Ext.drew ?_ | refine Ext.drewN ?_ _ | refine Ext.alloc ?_ _)))).mono ?_); rintro e w9 ⟨rfl, hq⟩; rw [F4.out]; replace HK := Lib.hid (HK.out.ext (Ext.trans (by repeat (first | exact Ext.refl _ | refine Ext.drew ?_ | refine Ext.drewN ?_ _ | refine Ext.alloc ?_ _)) hq)); replace HB := Lib.hid (HB.out.trans (Ext.trans (by repeat (first | exact Ext.refl _ | refine Ext.drew ?_ | refine Ext.drewN ?_ _ | refine Ext.alloc ?_ _)) hq)); clear hq) | ((with_reducible refine (ccheck_any 0 _ 100 100 (List.replicate 100 ro0) _ (HM2.out.ext (by repeat (first | exact Ext.refl _ | refine Ext.drew ?_ | refine Ext.drewN ?_ _ | refine Ext.alloc ?_ _)))).mono ?_); rintro e w9 ⟨rfl, hq⟩; rw [F6.out]; replace HK := Lib.hid (HK.out.ext (Ext.trans (by repeat (first | exact Ext.refl _ | refine Ext.drew ?_ | refine Ext.drewN ?_ _ | refine Ext.alloc ?_ _)) hq)); replace HB := Lib.hid (HB.out.trans (Ext.trans (by repeat (first | exact Ext.refl _ | refine Ext.drew ?_ | refine Ext.drewN ?_ _ | refine Ext.alloc ?_ _)) hq)); clear hq) | (go_loud ((with_reducible refine (ccheck_any 1 _ 1 1 R0 _ (rws_lit ⟨0, false, 0, 0⟩ false (by rfl) (by simp [stc]) (by rfl) hs0)).mono ?_); rintro e w9 ⟨rfl, hq⟩; rw [F5.out]; replace HK := Lib.hid (HK.out.ext (Ext.trans (by repeat (first | exact Ext.refl _ | refine Ext.drew ?_ | refine Ext.drewN ?_ _ | refine Ext.alloc ?_ _)) hq)); replace HB := Lib.hid (HB.out.trans (Ext.trans (by repeat (first | exact Ext.refl _ | refine Ext.drew ?_ | refine Ext.drewN ?_ _ | refine Ext.alloc ?_ _)) hq)); clear hq))))
    | (at_make; (first | (refine wpList_make_own 22 46 (.agg #[.bool false, .slice none 0 0]) 2 32 101 0 (by rfl) (by rfl) Tryz.underlying22 info_row (by rfl) (by omega) (by omega) (Nat.zero_le _) ?_; intro w9 HO9 HE9 hlt9; have HM1 := Lib.hid (rws_made HO9.out); have hq := HE9.out; clear HO9 HE9; replace HK := Lib.hid (HK.out.ext (Ext.trans (by repeat (first | exact Ext.refl _ | refine Ext.drew ?_ | refine Ext.drewN ?_ _ | refine Ext.alloc ?_ _)) hq)); replace HB := Lib.hid (HB.out.trans (Ext.trans (by repeat (first | exact Ext.refl _ | refine Ext.drew ?_ | refine Ext.drewN ?_ _ | refine Ext.alloc ?_ _)) hq)); clear hq) | (go_loud (refine wpList_make_own 22 46 (.agg #[.bool false, .slice none 0 0]) 2 32 100 0 (by rfl) (by rfl) Tryz.underlying22 info_row (by rfl) (by omega) (by omega) (Nat.zero_le _) ?_; intro w9 HO9 HE9 hlt9; have HM2 := Lib.hid (rws_made HO9.out); have hq := HE9.out; clear HO9 HE9; replace HK := Lib.hid (HK.out.ext (Ext.trans (by repeat (first | exact Ext.refl _ | refine Ext.drew ?_ | refine Ext.drewN ?_ _ | refine Ext.alloc ?_ _)) hq)); replace HB := Lib.hid (HB.out.trans (Ext.trans (by repeat (first | exact Ext.refl _ | refine Ext.drew ?_ | refine Ext.drewN ?_ _ | refine Ext.alloc ?_ _)) hq)); clear hq))))
    | (go_at_call 20; (first | (go_loud ((with_reducible refine (cface_x 1 2 1 (HK.out.ext (by repeat (first | exact Ext.refl _ | refine Ext.drew ?_ | refine Ext.drewN ?_ _ | refine Ext.alloc ?_ _))) F7.out (by decide)).mono ?_); rintro e w9 ⟨A9, n9, c9, rfl, hq⟩; replace HK := Lib.hid (HK.out.ext (Ext.trans (by repeat (first | exact Ext.refl _ | refine Ext.drew ?_ | refine Ext.drewN ?_ _ | refine Ext.alloc ?_ _)) hq)); replace HB := Lib.hid (HB.out.trans (Ext.trans (by repeat (first | exact Ext.refl _ | refine Ext.drew ?_ | refine Ext.drewN ?_ _ | refine Ext.alloc ?_ _)) hq)); clear hq))))
    | (go_at_call 26; (first | ((with_reducible refine (cpart_x 1 1 0 2 (HK.out.ext (by repeat (first | exact Ext.refl _ | refine Ext.drew ?_ | refine Ext.drewN ?_ _ | refine Ext.alloc ?_ _))) (Nat.le_refl _) F8.out (by decide)).mono ?_); rintro e w9 ⟨A9, n9, c9, rfl, hq⟩; replace HK := Lib.hid (HK.out.ext (Ext.trans (by repeat (first | exact Ext.refl _ | refine Ext.drew ?_ | refine Ext.drewN ?_ _ | refine Ext.alloc ?_ _)) hq)); replace HB := Lib.hid (HB.out.trans (Ext.trans (by repeat (first | exact Ext.refl _ | refine Ext.drew ?_ | refine Ext.drewN ?_ _ | refine Ext.alloc ?_ _)) hq)); clear hq) | (go_loud ((with_reducible refine (cpart_x 1 0 2 2 (HK.out.ext (by repeat (first | exact Ext.refl _ | refine Ext.drew ?_ | refine Ext.drewN ?_ _ | refine Ext.alloc ?_ _))) (Nat.le_refl _) F9.out (by decide)).mono ?_); rintro e w9 ⟨A9, n9, c9, rfl, hq⟩; replace HK := Lib.hid (HK.out.ext (Ext.trans (by repeat (first | exact Ext.refl _ | refine Ext.drew ?_ | refine Ext.drewN ?_ _ | refine Ext.alloc ?_ _)) hq)); replace HB := Lib.hid (HB.out.trans (Ext.trans (by repeat (first | exact Ext.refl _ | refine Ext.drew ?_ | refine Ext.drewN ?_ _ | refine Ext.alloc ?_ _)) hq)); clear hq))))
    | (go_at_call 27; (first | (go_loud ((with_reducible refine (cjoin_x 1 2 26 (HK.out.ext (by repeat (first | exact Ext.refl _ | refine Ext.drew ?_ | refine Ext.drewN ?_ _ | refine Ext.alloc ?_ _))) (Rws.none_ _ _ _) F10.out (by decide)).mono ?_); rintro e w9 ⟨A9, n9, c9, rfl, hq⟩; replace HK := Lib.hid (HK.out.ext (Ext.trans (by repeat (first | exact Ext.refl _ | refine Ext.drew ?_ | refine Ext.drewN ?_ _ | refine Ext.alloc ?_ _)) hq)); replace HB := Lib.hid (HB.out.trans (Ext.trans (by repeat (first | exact Ext.refl _ | refine Ext.drew ?_ | refine Ext.drewN ?_ _ | refine Ext.alloc ?_ _)) hq)); clear hq)))))
  have HW12 := Lib.hid HB.out
  go_cut [16, 17] from 73 to 80 (fun u e wx => (∃ g : Nat, u = .pointer (some ⟨g, 0, none⟩)) ∧ e = .int .i64 4 ∧ Hid (Ext w wx))
  case first =>
    go_region_held3 (fun _ => True) (go_keep) (first | ((with_reducible refine gate_make ?_); (first | ((refine upon_make_own 22 46 (.agg #[.bool false, .slice none 0 0]) 2 32 60 60 0 (by rfl) Tryz.underlying22 info_row (by omega) (by omega) (Nat.zero_le _) ?_); intro w9 HO9 HE9 hlt9; have HM3 := Lib.hid (rws_made HO9.out); (try simp only [World.size_drew, World.size_alloc] at HM3); have hq := HE9.out; clear HO9 HE9; (try replace HYb := Lib.hid (HYb.out.ext (Ext.trans (by repeat (first | exact Ext.refl _ | refine Ext.drew ?_ | refine Ext.drewN ?_ _ | refine Ext.alloc ?_ _)) hq))); (try ((first | have HYa := Lib.hid (FreshB.mk_ (lo := w.heap.size) (u0 := .int .i64 0) (u1 := .slice none 0 0) hq (Below.size (HB.out.trans (by repeat (first | exact Ext.refl _ | refine Ext.drew ?_ | refine Ext.drewN ?_ _ | refine Ext.alloc ?_ _))))) | have HYa := Lib.hid (FreshB.mkd (lo := w.heap.size) (u0 := .int .i64 0) (u1 := .slice none 0 0) hq (Below.size (HB.out.trans (by repeat (first | exact Ext.refl _ | refine Ext.drew ?_ | refine Ext.drewN ?_ _ | refine Ext.alloc ?_ _)))))); (try simp only [World.size_drew, World.size_alloc] at HYa))); (try obtain ⟨y00, y01, y02, y03, y04, y05⟩ := HYb.out); (try obtain ⟨y10, y11, y12, y13, y14, y15⟩ := HYa.out); (try replace HM4 := Lib.hid (HM4.out.ext (Ext.trans (by repeat (first | exact Ext.refl _ | refine Ext.drew ?_ | refine Ext.drewN ?_ _ | refine Ext.alloc ?_ _)) hq))); replace HK := Lib.hid (HK.out.ext (Ext.trans (by repeat (first | exact Ext.refl _ | refine Ext.drew ?_ | refine Ext.drewN ?_ _ | refine Ext.alloc ?_ _)) hq)); replace HB := Lib.hid (HB.out.trans (Ext.trans (by repeat (first | exact Ext.refl _ | refine Ext.drew ?_ | refine Ext.drewN ?_ _ | refine Ext.alloc ?_ _)) hq)); clear hq) | (go_loud ((refine upon_make_own 22 46 (.agg #[.bool false, .slice none 0 0]) 2 32 41 41 0 (by rfl) Tryz.underlying22 info_row (by omega) (by omega) (Nat.zero_le _) ?_); intro w9 HO9 HE9 hlt9; have HM4 := Lib.hid (rws_made HO9.out); (try simp only [World.size_drew, World.size_alloc] at HM4); have hq := HE9.out; clear HO9 HE9; (try replace HYa := Lib.hid (HYa.out.ext (Ext.trans (by repeat (first | exact Ext.refl _ | refine Ext.drew ?_ | refine Ext.drewN ?_ _ | refine Ext.alloc ?_ _)) hq))); (try ((first | have HYb := Lib.hid (FreshB.mk_ (lo := w.heap.size) (u0 := .int .i64 0) (u1 := .slice none 0 0) hq (Below.size (HB.out.trans (by repeat (first | exact Ext.refl _ | refine Ext.drew ?_ | refine Ext.drewN ?_ _ | refine Ext.alloc ?_ _))))) | have HYb := Lib.hid (FreshB.mkd (lo := w.heap.size) (u0 := .int .i64 0) (u1 := .slice none 0 0) hq (Below.size (HB.out.trans (by repeat (first | exact Ext.refl _ | refine Ext.drew ?_ | refine Ext.drewN ?_ _ | refine Ext.alloc ?_ _)))))); (try simp only [World.size_drew, World.size_alloc] at HYb))); (try obtain ⟨y00, y01, y02, y03, y04, y05⟩ := HYa.out); (try obtain ⟨y10, y11, y12, y13, y14, y15⟩ := HYb.out); (try replace HM3 := Lib.hid (HM3.out.ext (Ext.trans (by repeat (first | exact Ext.refl _ | refine Ext.drew ?_ | refine Ext.drewN ?_ _ | refine Ext.alloc ?_ _)) hq))); replace HK := Lib.hid (HK.out.ext (Ext.trans (by repeat (first | exact Ext.refl _ | refine Ext.drew ?_ | refine Ext.drewN ?_ _ | refine Ext.alloc ?_ _)) hq)); replace HB := Lib.hid (HB.out.trans (Ext.trans (by repeat (first | exact Ext.refl _ | refine Ext.drew ?_ | refine Ext.drewN ?_ _ | refine Ext.alloc ?_ _)) hq)); clear hq)))) | (go_at_call 27; (go_loud ((with_reducible refine (cjoin_x 0 0 4 (HM3.out.ext (by repeat (first | exact Ext.refl _ | refine Ext.drew ?_ | refine Ext.drewN ?_ _ | refine Ext.alloc ?_ _))) (HM4.out.ext (by repeat (first | exact Ext.refl _ | refine Ext.drew ?_ | refine Ext.drewN ?_ _ | refine Ext.alloc ?_ _))) F11.out (by decide)).mono ?_); rintro e w9 ⟨A9, n9, c9, rfl, hq⟩; (try replace HYa := Lib.hid (HYa.out.ext (Ext.trans (by repeat (first | exact Ext.refl _ | refine Ext.drew ?_ | refine Ext.drewN ?_ _ | refine Ext.alloc ?_ _)) hq))); (try replace HYb := Lib.hid (HYb.out.ext (Ext.trans (by repeat (first | exact Ext.refl _ | refine Ext.drew ?_ | refine Ext.drewN ?_ _ | refine Ext.alloc ?_ _)) hq))); (try ((first | have HYc := Lib.hid (FreshB.mk_ (lo := w.heap.size) (u0 := .int .i64 0) (u1 := .slice none 0 0) hq (Below.size (HB.out.trans (by repeat (first | exact Ext.refl _ | refine Ext.drew ?_ | refine Ext.drewN ?_ _ | refine Ext.alloc ?_ _))))) | have HYc := Lib.hid (FreshB.mkd (lo := w.heap.size) (u0 := .int .i64 0) (u1 := .slice none 0 0) hq (Below.size (HB.out.trans (by repeat (first | exact Ext.refl _ | refine Ext.drew ?_ | refine Ext.drewN ?_ _ | refine Ext.alloc ?_ _)))))); (try simp only [World.size_drew, World.size_alloc] at HYc))); (try obtain ⟨y00, y01, y02, y03, y04, y05⟩ := HYa.out); (try obtain ⟨y10, y11, y12, y13, y14, y15⟩ := HYb.out); (try obtain ⟨y20, y21, y22, y23, y24, y25⟩ := HYc.out); replace HK := Lib.hid (HK.out.ext (Ext.trans (by repeat (first | exact Ext.refl _ | refine Ext.drew ?_ | refine Ext.drewN ?_ _ | refine Ext.alloc ?_ _)) hq)); replace HB := Lib.hid (HB.out.trans (Ext.trans (by repeat (first | exact Ext.refl _ | refine Ext.drew ?_ | refine Ext.drewN ?_ _ | refine Ext.alloc ?_ _)) hq)); clear hq))))
    all_goals
      go_wp2_with fail
      go_meet
      refine ⟨⟨_, rfl⟩, rfl, Lib.hid ?_⟩
      first
        | exact HB.out.alloc _
        | exact Below.setCell (Below.setCell HB.out (by show w.heap.size ≤ _; assumption) _) (by show w.heap.size ≤ _; assumption) _
  case rest =>
    obtain ⟨⟨g16, rfl⟩, rfl, HBc⟩ := hcut
    replace HB := HBc
    clear HBc HW12 HM1 HM2
    go_wp2_with (first
      | (go_at_call 12; (first | (go_loud ((with_reducible refine (cparse_c (t := [115, 116, 97, 114, 116, 32, 48, 10]) 0 F12.out rfl (HG.out.ext (HB.out.trans (by repeat (first | exact Ext.refl _ | refine Ext.drew ?_ | refine Ext.drewN ?_ _ | refine Ext.alloc ?_ _))))).mono ?_); rintro e w11 ⟨A11, c11, rfl, hq, hr⟩; have HXN := Lib.hid (BoxAt.new_ w11 0 (.slice A11 0 c11) 24); clear hr; replace HB := Lib.hid (HB.out.trans (Ext.trans (by repeat (first | exact Ext.refl _ | refine Ext.drew ?_ | refine Ext.drewN ?_ _ | refine Ext.alloc ?_ _)) hq)); clear hq)))))
    go_loopw [21] (fun i wr => ∃ k : Nat, i = .int .i64 k ∧ k ≤ 12 ∧ Hid (Vec shStr wr (some ⟨w11.heap.size + 1, 0, none⟩) 12 badT) ∧ Hid (BoxAt wr w11.heap.size 0 (.slice A11 0 c11)) ∧ Hid (Ext w wr)) (fun i _ => 12 - (intOf i).toNat)
    case atStart => exact ⟨0, rfl, by omega, Lib.hid (Vec.lit2 (by simp) rfl rfl), Lib.hid (HXN.out.ext ((Ext.refl _).alloc _)), Lib.hid (HB.out.trans (by repeat (first | exact Ext.refl _ | refine Ext.drew ?_ | refine Ext.drewN ?_ _ | refine Ext.alloc ?_ _)))⟩
    case round =>
      clear HB HXN
      obtain ⟨k, rfl, hk, HT, HXN, HB⟩ := hrel
      by_cases hlt : k < 12
      · have hcell := str_cell HT.out hlt
        have hz := World.block_lt_of_cell? wr _ hcell
        obtain ⟨hb1, hb2⟩ := badT_at hlt
        have HP := Lib.hid (fun (w' : World) (hg' : Glob w') => cparse_x hb1 hb2 hg')
        generalize badT.getD k [] = x at *
        have q0 : (0 : Int) ≤ (k : Int) := by omega
        have q1 : (k : Int) < 12 := by omega
        clear hb1 hb2
        go_wp2_with (first
          | (go_at_call 12; go_loud ((with_reducible refine (HP.out _ (HG.out.ext HB.out)).mono ?_); rintro e w12 ⟨A12, c12, rfl, hq⟩; replace HB := Lib.hid (HB.out.trans hq); replace HT := Lib.hid (HT.out.ext (hq.trans ((Ext.refl _).alloc (.cells #[.int .i64 0, .slice A12 0 c12] 24)))); replace HXN := Lib.hid (HXN.out.ext (hq.trans ((Ext.refl _).alloc (.cells #[.int .i64 0, .slice A12 0 c12] 24)))); clear hq)))
        go_roundw
        case rel => exact ⟨k + 1, by go_num, by omega, HT, HXN, Lib.hid (HB.out.trans (by repeat (first | exact Ext.refl _ | refine Ext.drew ?_ | refine Ext.drewN ?_ _ | refine Ext.alloc ?_ _)))⟩
        case measure => simp [intOf]; omega
      · obtain rfl : k = 12 := by omega
        clear HT
        obtain ⟨x0, x1, x2⟩ := HXN.out
        go_wp2_with (first
          | (go_at_call 15; go_loud ((with_reducible refine (calive_any _ (HG.out.ext HB.out)).mono ?_); rintro e w13 ⟨rfl, hq⟩; replace HB := Lib.hid (HB.out.trans hq); replace HXN := Lib.hid (HXN.out.ext hq); clear hq x0 x1 x2; obtain ⟨x0, x1, x2⟩ := HXN.out)))
        go_ret
        exact ⟨rfl, HB.out⟩

set_option maxRecDepth 100000 in
theorem chartNames_lifted (os : Os) (started : os.Started) (H : Type) (enc : TypeId × Value → H) :
    ReturnsInHanded {} Tryz.checked os 7 .any (fun w args => (Rows.chartNamesSpec.pre enc Tryz.prog Tryz.f7 [] false w args ∧ laidMetH Tryz.prog [("math/bits.deBruijn32tab", Rows.laid_math_bits_deBruijn32tab), ("math/bits.deBruijn64tab", Rows.laid_math_bits_deBruijn64tab), ("internal/strconv.uint64pow10", Rows.laid_internal_strconv_uint64pow10), ("unicode/utf8.acceptRanges", Rows.laid_unicode_utf8_acceptRanges), ("strconv.ErrRange", Rows.laid_strconv_ErrRange), ("strconv.ErrSyntax", Rows.laid_strconv_ErrSyntax), ("unicode/utf8.first", Rows.laid_unicode_utf8_first)] w) ∧ sizedMet enc Tryz.prog Tryz.f7 (OpenSpec.ofChange Rows.chartNamesSpec) false w args)
      (Rows.chartNamesSpec.post enc Tryz.prog Tryz.f7 false true false false) := by
  refine returns_laid (C := Tryz.checked) (X := fun w _ => laidMetH Tryz.prog [("math/bits.deBruijn32tab", Rows.laid_math_bits_deBruijn32tab), ("math/bits.deBruijn64tab", Rows.laid_math_bits_deBruijn64tab), ("internal/strconv.uint64pow10", Rows.laid_internal_strconv_uint64pow10), ("unicode/utf8.acceptRanges", Rows.laid_unicode_utf8_acceptRanges), ("strconv.ErrRange", Rows.laid_strconv_ErrRange), ("strconv.ErrSyntax", Rows.laid_strconv_ErrSyntax), ("unicode/utf8.first", Rows.laid_unicode_utf8_first)] w) (fun _ _ _ hh h => h.of_heap hh) own started (by kernel_rfl) Tryz.func7
    (ChangeSpec.witness_shaped (enc := enc) (C := Tryz.checked) (os := os) (X := fun w _ => laidMetH Tryz.prog [("math/bits.deBruijn32tab", Rows.laid_math_bits_deBruijn32tab), ("math/bits.deBruijn64tab", Rows.laid_math_bits_deBruijn64tab), ("internal/strconv.uint64pow10", Rows.laid_internal_strconv_uint64pow10), ("unicode/utf8.acceptRanges", Rows.laid_unicode_utf8_acceptRanges), ("strconv.ErrRange", Rows.laid_strconv_ErrRange), ("strconv.ErrSyntax", Rows.laid_strconv_ErrSyntax), ("unicode/utf8.first", Rows.laid_unicode_utf8_first)] w) false (World.laidAll Tryz.prog os [("math/bits.deBruijn32tab", Rows.laid_math_bits_deBruijn32tab), ("math/bits.deBruijn64tab", Rows.laid_math_bits_deBruijn64tab), ("internal/strconv.uint64pow10", Rows.laid_internal_strconv_uint64pow10), ("unicode/utf8.acceptRanges", Rows.laid_unicode_utf8_acceptRanges), ("strconv.ErrRange", Rows.laid_strconv_ErrRange), ("strconv.ErrSyntax", Rows.laid_strconv_ErrSyntax), ("unicode/utf8.first", Rows.laid_unicode_utf8_first)]) #[] 8 (World.laidAll_os _ _ _)
      (World.shaped_of_ZipB (by kernel_rfl) (by kernel_rfl)) (by kernel_rfl) (by kernel_rfl) (by kernel_rfl)
      (by rw [MakeChecks.laidMetH_plain _ _ _ (by kernel_rfl)]; exact laidMet_laidAll _ (by kernel_rfl) (by kernel_rfl))) ?_
  intro W base args ds gs before hval0 hW hL hsh
  have hval : ∀ (j : Nat) t v, Tryz.f7.params[j]? = some t → args[j]? = some v → Value.okWide Tryz.prog W .any base t v := hval0
  have hW' := hW
  obtain ⟨p, q, hA0, hV, rfl, hfz, hnd⟩ := hW
  have hA : DataW.TrodAll enc Tryz.prog W 0 (fun _ => true) true Tryz.f7.params.toList args.toList ds p := hA0
  rw [Tryz.params7] at hA hval
  obtain ⟨rfl, rfl, rfl⟩ := trodAll_none hA
  obtain ⟨rfl, rfl⟩ := trodVars_none hV
  rw [MakeChecks.laidMetH_plain _ _ _ (by kernel_rfl)] at hL
  have hG := glob_of hL hsh
  refine (chartNames_walk W hG).mono fun e W' ⟨he, hg⟩ => ?_
  subst he
  exact ⟨_, rfl, law_post laid_out rfl Tryz.underlying4 (by kernel_rfl) rfl hW' rfl hg⟩

theorem chartNames_holds : Rows.ChartNamesSaid :=
  OpenClaim.holds_of_wide 7 Tryz.f7 rfl rfl rfl rfl rfl rfl rfl ⟨rfl, rfl, rfl, rfl, rfl⟩ rfl rfl rfl rfl rfl (by kernel_rfl) Tryz.func7 (by kernel_rfl)
    (of_decide_eq_true (by kernel_rfl)) (by unfold Func.isWrapper; first | (rw [if_pos (by decide +kernel)]; kernel_rfl) | (rw [if_neg (by decide +kernel)]; exact ⟨rfl, rfl⟩))
    (fun os started H enc _ => chartNames_lifted os started H enc)

theorem chartNames_card : Rows.ChartNamesCardSaid :=
  Claim7.holds_tied_plain_at .later [] [.data, .data, .data, .data, .sentinel, .sentinel, .pinned] true (true, "39bfa126c88c4eab7a3d93e3b80aed671d612458207461505dfa1022f9959405") true
    chartNames_holds (fun _ h => by cases h) (by kernel_rfl) (fun _ h => by cases h) chartNames_row_tie rfl ⟨rfl, rfl⟩ (by kernel_rfl) rfl
    (fun f fn hf hfn => by
      obtain rfl : f = 7 := Option.some.inj ((show Tryz.prog.funcNamed "raddle/raddlelaw26.ChartNames" = some 7 by kernel_rfl).symm.trans hf) |>.symm
      obtain rfl : fn = Tryz.f7 := (Option.some.inj (Tryz.func7.symm.trans hfn)).symm
      exact ⟨by kernel_rfl, fun j t ht => by
        rw [Tryz.params7] at ht
        simp at ht⟩)
    (by kernel_rfl)
end Go.Proofs.YtjjhoonkooihjaaGreatDoor
