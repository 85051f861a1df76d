/- What the laws of seam share. -/
import Derived.Test.YtepegahgiciegaaLaw
import Derived.Test.YtepegahgiciegaaSeamT
namespace Go.Proofs.Ytepegahgiciegaa
open Go.RowKit

theorem Ints.lit (w : World) (L : List Int) (t : TypeId) : Ints (w.alloc (.cells (L.map (Value.int .i64)).toArray t)) (some ⟨w.heap.size, 0, none⟩) L.length L := by
  refine ⟨rfl, fun hn => ⟨w.heap.size, 0, rfl, by simp, fun j hj => ?_⟩⟩
  rw [Nat.zero_add]
  have h : (w.alloc (.cells (L.map (Value.int .i64)).toArray t)).heap[w.heap.size]? = some (.cells (L.map (Value.int .i64)).toArray t) := heap_alloc_new w _
  rw [cell_of_row _ w.heap.size j _ t (0, 0) h]
  simp [List.getD_eq_getElem?_getD, List.getElem?_eq_getElem hj]
theorem Ints.lit2 {w : World} {L : List Int} {t : TypeId} {g n : Nat} {cs : Array Value} (hg : g = w.heap.size) (hc : cs = (L.map (Value.int .i64)).toArray) (hn : n = L.length) : Ints (w.alloc (.cells cs t)) (some ⟨g, 0, none⟩) n L := by
  subst hg; subst hc; subst hn; exact Ints.lit w L t
theorem need_c {a b c d rows v e : Int} (h : needG (gok a b c d) rows (near (rows * d * a) (c * b)) = (v, e)) (w : World) :
    Calls Try.prog 10 #[.agg #[.int .i64 a, .int .i64 b, .int .i64 c, .int .i64 d], .int .i64 rows] w fun x w' => x = .returned (.tuple #[.int .i64 v, .int .i64 e]) ∧ Ext w w' := by
  have := need_any a b c d rows w
  rwa [h] at this
theorem pick_c {rows n e : Int} {L : List Int} (h : pickL rows n = L ∧ edB rows n = e) (w : World) :
    Calls Try.prog 12 #[.int .i64 rows, .int .i64 n] w fun x w' => ∃ A cap, x = .returned (.tuple #[.slice A L.length cap, .int .i64 e]) ∧ Ints w' A L.length L ∧ Ext w w' := by
  have := pick_any rows n w
  rwa [h.1, h.2] at this
theorem rate_c {rows n x y e : Int} (h : rateG rows n = (x, y, e)) (w : World) :
    Calls Try.prog 14 #[.int .i64 rows, .int .i64 n] w fun r w' => r = .returned (.tuple #[.int .i64 x, .int .i64 y, .int .i64 e]) ∧ Ext w w' := by
  have := rate_any rows n w
  rwa [h] at this
theorem join_c {a b e : Int} {L : List (Int × Int)} (h : joinL a b = L ∧ edB a b = e) (w : World) : Calls Try.prog 17 #[.int .i64 a, .int .i64 b] w (PrsE w L e) := by
  have := join_any a b w
  rwa [h.1, h.2] at this
theorem marked_c {a b e : Int} {am bm : List Int} {L : List (Int × Int)} (h : mkdL a b am bm = L ∧ mkE a b am bm = e) {n m c d : Nat} {A B : Option Addr} (w : World) (hx : Ints w A n am) (hy : Ints w B m bm) (hn : n ≤ maxLen) (hm : m ≤ maxLen) :
    Calls Try.prog 19 #[.int .i64 a, .int .i64 b, .slice A n c, .slice B m d] w (PrsE w L e) := by
  have := marked_any a b n m c d A B am bm w hx hy hn hm
  rwa [h.1, h.2] at this
theorem check_c {a b e : Int} {l : List (Int × Int)} (h : chkE l a b = e) {n c : Nat} {A : Option Addr} (w : World) (hx : Vec shPair w A n l) (hn : n ≤ maxLen) :
    Calls Try.prog 24 #[.slice A n c, .int .i64 a, .int .i64 b] w fun x w' => x = .returned (.int .i64 e) ∧ Ext w w' := by
  have := check_any n c A l a b w hx hn
  rwa [h] at this
theorem shares_c {a b e : Int} {l : List (Int × Int)} {X Y : List Int} (h : shXL l a b = X ∧ shYL l a b = Y ∧ chkE l a b = e) {n c : Nat} {A : Option Addr} (w : World) (hx : Vec shPair w A n l) (hn : n ≤ maxLen) :
    Calls Try.prog 21 #[.slice A n c, .int .i64 a, .int .i64 b] w (ShE w X Y e) := by
  have := shares_any n c A l a b w hx hn
  rwa [h.1, h.2.1, h.2.2] at this
theorem alEv1 : needG (gok 22 1000 30 1000) 40 (near (40 * 1000 * 22) (30 * 1000)) = (29, 0) := by decide +kernel
theorem alEv2 : pickL 4 3 = [0, 2, 3] ∧ edB 4 3 = 0 := by decide +kernel
theorem alEv3 : rateG 40 30 = (3, 4, 0) := by decide +kernel
theorem alEv4 : joinL 3 2 = [(0, 0), (1, 0), (2, 1)] ∧ edB 3 2 = 0 := by decide +kernel
theorem alEv5 : shXL [(0, 0), (1, 0), (2, 1)] 3 2 = [1, 1, 1] ∧ shYL [(0, 0), (1, 0), (2, 1)] 3 2 = [2, 1] ∧ chkE [(0, 0), (1, 0), (2, 1)] 3 2 = 0 := by decide +kernel
theorem alEv6 : mkdL 3 2 [1] [1] = [(0, 0), (1, 1), (2, 1)] ∧ mkE 3 2 [1] [1] = 0 := by decide +kernel

set_option maxRecDepth 100000 in
set_option maxHeartbeats 4000000 in
theorem alive_any (w : World) : Calls Try.prog 26 #[] w fun e w' => e = .returned (.bool true) ∧ Ext w w' := by
  go_enter Try.func26, Try.ntmps26
  go_wp2_with (first | (go_at_call 10; ((with_reducible refine (need_c alEv1 _).mono ?_); rintro e w1 ⟨rfl, hq1⟩)) | (go_at_call 12; ((with_reducible refine (pick_c alEv2 _).mono ?_); rintro e w2 ⟨A2, c2, rfl, hi2, hq2⟩)) | (go_at_call 14; ((with_reducible refine (rate_c alEv3 _).mono ?_); rintro e w3 ⟨rfl, hq3⟩)) | (go_at_call 17; ((with_reducible refine (join_c alEv4 _).mono ?_); rintro e w4 ⟨A4, c4, rfl, hv4, hq4⟩)) | (go_at_call 21; ((with_reducible refine (shares_c (l := [(0, 0), (1, 0), (2, 1)]) alEv5 _ ?_ (by decide)).mono ?_); (focus (first | exact Vec.none_ _ _ _ | (refine Vec.lit2 ?_ rfl rfl; (simp; done)))); rintro e w5 ⟨A5, c5, B5, d5, rfl, hx5, hy5, hq5⟩)) | (go_at_call 19; ((with_reducible refine (marked_c alEv6 _ ?_ ?_ (by decide) (by decide)).mono ?_); (focus (first | (refine Ints.lit2 ?_ rfl rfl; (simp; done)) | (refine Ints.ext (Ints.lit2 rfl rfl rfl) ?_; repeat (first | exact Ext.refl _ | assumption | refine Ext.alloc ?_ _ | refine Ext.drew ?_ | refine Ext.drewN ?_ _ | refine Ext.trans ?_ (by assumption)); done) | (refine Ints.ext (Ints.lit2 (g := _) rfl rfl rfl) ((Ext.refl _).alloc _)))); (focus (first | (refine Ints.lit2 ?_ rfl rfl; (simp; done)) | (refine Ints.ext (Ints.lit2 rfl rfl rfl) ?_; repeat (first | exact Ext.refl _ | assumption | refine Ext.alloc ?_ _ | refine Ext.drew ?_ | refine Ext.drewN ?_ _ | refine Ext.trans ?_ (by assumption)); done) | (refine Ints.ext (Ints.lit2 (g := _) rfl rfl rfl) ((Ext.refl _).alloc _)))); rintro e w6 ⟨A6, c6, rfl, hv6, hq6⟩)))
  go_wp2_with (first | (go_at_call 16; ((with_reducible refine (same_any 3 3 _ _ A2 _ [0, 2, 3] [0, 2, 3] _ ?_ ?_ (by decide)).mono ?_); (focus (refine Ints.ext hi2 ?_; repeat (first | exact Ext.refl _ | assumption | refine Ext.alloc ?_ _ | refine Ext.drew ?_ | refine Ext.drewN ?_ _ | refine Ext.trans ?_ (by assumption)))); (focus (refine Ints.lit2 ?_ rfl rfl; simp)); rintro e w7 ⟨rfl, hq7⟩)) | (go_at_call 23; ((with_reducible refine (psame_any 3 3 _ _ A4 _ [(0, 0), (1, 0), (2, 1)] [(0, 0), (1, 0), (2, 1)] _ ?_ ?_ (by decide)).mono ?_); (focus (refine Vec.ext hv4 ?_; repeat (first | exact Ext.refl _ | assumption | refine Ext.alloc ?_ _ | refine Ext.drew ?_ | refine Ext.drewN ?_ _ | refine Ext.trans ?_ (by assumption)))); (focus (refine Vec.lit2 ?_ rfl rfl; simp)); rintro e w8 ⟨rfl, hq8⟩)) | (go_at_call 16; ((with_reducible refine (same_any 3 3 _ _ A5 _ [1, 1, 1] [1, 1, 1] _ ?_ ?_ (by decide)).mono ?_); (focus (refine Ints.ext hx5 ?_; repeat (first | exact Ext.refl _ | assumption | refine Ext.alloc ?_ _ | refine Ext.drew ?_ | refine Ext.drewN ?_ _ | refine Ext.trans ?_ (by assumption)))); (focus (refine Ints.lit2 ?_ rfl rfl; simp)); rintro e w9 ⟨rfl, hq9⟩)) | (go_at_call 16; ((with_reducible refine (same_any 2 2 _ _ B5 _ [2, 1] [2, 1] _ ?_ ?_ (by decide)).mono ?_); (focus (refine Ints.ext hy5 ?_; repeat (first | exact Ext.refl _ | assumption | refine Ext.alloc ?_ _ | refine Ext.drew ?_ | refine Ext.drewN ?_ _ | refine Ext.trans ?_ (by assumption)))); (focus (refine Ints.lit2 ?_ rfl rfl; simp)); rintro e w10 ⟨rfl, hq10⟩)) | (go_at_call 23; ((with_reducible refine (psame_any 3 3 _ _ A6 _ [(0, 0), (1, 1), (2, 1)] [(0, 0), (1, 1), (2, 1)] _ ?_ ?_ (by decide)).mono ?_); (focus (refine Vec.ext hv6 ?_; repeat (first | exact Ext.refl _ | assumption | refine Ext.alloc ?_ _ | refine Ext.drew ?_ | refine Ext.drewN ?_ _ | refine Ext.trans ?_ (by assumption)))); (focus (refine Vec.lit2 ?_ rfl rfl; simp)); rintro e w11 ⟨rfl, hq11⟩)))
  go_ret
  exact ⟨rfl, by repeat (first | exact Ext.refl _ | assumption | refine Ext.alloc ?_ _ | refine Ext.drew ?_ | refine Ext.drewN ?_ _ | refine Ext.trans ?_ (by assumption))⟩
end Go.Proofs.Ytepegahgiciegaa
