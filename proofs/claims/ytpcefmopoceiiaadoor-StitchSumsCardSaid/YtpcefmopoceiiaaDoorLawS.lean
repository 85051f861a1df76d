/- What a list uses, and makes, is the sum for its parts, and the other side of a list has the other sides of its parts, the other way about; for any list of at most 60 stitches, and a place. -/
import Derived.Test.YtpcefmopoceiiaaDoorAlive
import Derived.Test.YtpcefmopoceiiaaDoorLaid
import Derived.Test.YtpcefmopoceiiaaDoorStitchR
import Derived.Test.YtpcefmopoceiiaaDoorStitchV
import Derived.Test.YtpcefmopoceiiaaDoorCards
namespace Go.Proofs.YtpcefmopoceiiaaDoor
set_option maxRecDepth 100000
set_option maxRecDepth 100000
open Go.ChangeShapes Go.WideShapes Go.ChangeAt Go.RowKit Go.Joins
section
variable {H : Type} {enc : TypeId × Value → H} {w : World} {base : Nat} {spare : Nat → Bool} {held : Bool}
theorem slice_cap {P : Program} {t e : TypeId} {A : Option Addr} {n c fuel : Nat} {y : DataW H × List MemPlace} (ht : P.underlying t = some (.slice e)) (h : DataW.trod enc P w base spare held fuel t [.slice A n c] = some y) : n ≤ c := by
  rcases Go.Deep.open_slice ht h with ⟨hcs, _⟩ | ⟨a, len, cap, m, n, D, Pl, hcs, _, hl, _⟩
  · simp only [List.cons.injEq, and_true, Value.slice.injEq] at hcs
    omega
  · simp only [List.cons.injEq, and_true, Value.slice.injEq] at hcs
    omega
theorem open_sts_argc {r : Reach} {b0 : Nat} {v : Value} {d : DataW H} {p : List MemPlace} (hv : Value.okWide Tryd.prog w r b0 24 v) (h : DataW.Trod enc Tryd.prog w base spare held 24 v d p) :
    ∃ (A : Option Addr) (n c : Nat) (l : List St), v = .slice A n c ∧ Vec shSt w A n l ∧ n ≤ maxLen ∧ Bytes l ∧ n ≤ c := by
  obtain ⟨A, n, c, l, rfl, h1, h2, h3⟩ := open_sts_arg hv h
  obtain ⟨fuel, hf⟩ := h
  exact ⟨A, n, c, l, rfl, h1, h2, h3, slice_cap Tryd.underlying24 hf⟩
end
theorem OwnV.empty_ {α : Type} (S : Shp α) {w : World} {g B : Nat} {e : TypeId} (h : w.heap[g]? = some (.cells #[] e (0, 0))) (hB : B ≤ g) : OwnV S w B e (.slice (some ⟨g, 0, none⟩) 0 0) 0 [] :=
  ⟨by simp, .inr ⟨g, 0, #[], rfl, hB, h, Nat.le_refl _, by simp, by simp, by simp⟩⟩
theorem Vec.first {α : Type} {S : Shp α} {w : World} {A : Option Addr} {n k : Nat} {l : List α} (h : Vec S w A n l) (hk : k ≤ n) : Vec S w A k (l.take k) := by
  have h1 := h.1
  refine ⟨by rw [List.length_take]; omega, fun h0 => ?_⟩
  obtain ⟨b, off, e, hlt, hc⟩ := h.2 (by omega)
  refine ⟨b, off, e, hlt, fun j x hx i u hu => hc j x ?_ i u hu⟩
  rw [List.getElem?_take] at hx
  split at hx
  · exact hx
  · cases hx
theorem Vec.rest {α : Type} {S : Shp α} {w : World} {A : Option Addr} {n k : Nat} {l : List α} (h : Vec S w A n l) (hk : k ≤ n) : ∀ (A' : Option Addr), (k < n → ∃ b off, A = some ⟨b, off, none⟩ ∧ A' = some ⟨b, off + k * S.size, none⟩) → Vec S w A' (n - k) (l.drop k) := by
  intro A' hA
  have h1 := h.1
  refine ⟨by rw [List.length_drop]; omega, fun h0 => ?_⟩
  obtain ⟨b, off, e, hlt, hc⟩ := h.2 (by omega)
  obtain ⟨b', off', e1, e2⟩ := hA (by omega)
  rw [e] at e1
  cases e1
  refine ⟨b, off + k * S.size, e2, hlt, fun j x hx i u hu => ?_⟩
  rw [List.getElem?_drop] at hx
  have h9 := hc (k + j) x hx i u hu
  rw [show off + k * S.size + (j * S.size + i) = off + ((k + j) * S.size + i) by rw [Nat.add_mul]; omega]
  exact h9
section
variable {α : Type} {S : Shp α} {P : Program} {ops : Array Oper} {rest : List Oper} {o : Oper} {a : Act} {Q : Exit → Act → World → Prop} {w wx : World}
/-- a list appended, the operation under a guard -/
theorem wpList_append_vecsG (T e : TypeId) (z : Value) (bytes : Nat) {s x : Operand} {v : Value} {k m c : Nat} {A : Option Addr} {L xs : List α}
    (hgd : Region.wanted o (yielded ops a.tmps) = true) (ho : o.op = .call { callee := .builtin .append, args := #[s, x], argTypes := #[T, T] })
    (ht : P.underlying T = some (.slice e)) (hinfo : (P.info? e).map (fun i => (i.zero, i.size, i.bytes)) = some (some z, S.size, bytes)) (hzs : z.cells.size = S.size) (hby : bytes ≤ 1000)
    (hs : a.eval s = v) (hx : a.eval x = .slice A m c) (hown : OwnV S wx w.heap.size e v k L) (hext : Ext w wx) (hxs : Vec S wx A m xs) (hk : k + m ≤ 1000000)
    (h : ∀ v' w1, OwnV S w1 w.heap.size e v' (k + m) (L ++ xs) → Hid (Ext w w1) → wpList P ops Q rest (a.put o.dst v') w1) : wpList P ops Q (o :: rest) a wx :=
  wpList_step fun K hK => by
    rw [if_pos hgd]
    exact wp_append_cells (news := xs.flatMap S.cells) T e z S.size bytes ho ht hinfo hzs S.pos hby hs hx hown hext (by rw [flat_len, hxs.1])
      (fun hm => by
        obtain ⟨b, off, hA, _, _⟩ := hxs.2 hm
        subst hA
        exact ⟨_, rfl, hxs.cells_at⟩) (fun u hu => by obtain ⟨y, _, hy⟩ := List.mem_flatMap.1 hu; exact S.one y u hy) hk
      fun v' w' h2 h3 h4 h5 => hK _ _ (h v' w' (by unfold OwnV; rw [List.flatMap_append]; exact h2) h3)
end
set_option maxRecDepth 100000 in
set_option maxHeartbeats 8000000 in
theorem stitchSums_walk (n c : Nat) (A : Option Addr) (l : List St) (at_ : Int) (w : World) (hl : Vec shSt w A n l) (hn : n ≤ maxLen) (hcap : n ≤ c) (hg : Glob w) :
    Calls Tryd.prog 5 #[.slice A n c, .int .i64 at_] w fun e w' => e = .returned (.bool true) ∧ Ext w w' := by
  have HX := Lib.hid hl
  have hnl := hl.1
  have HG := Lib.hid hg
  have HB := Lib.hid (Ext.refl w)
  clear hl hg
  cases hgr : greatN n
  case true =>
    have HGR := Lib.hid hgr
    clear hgr
    go_enter Tryd.func5, Tryd.ntmps5
    go_wp2_with (first
      | (go_at_call 12; go_loud ((with_reducible refine (alive_any _ (HG.out.ext (HB.out.trans (by repeat (first | exact Ext.refl _ | refine Ext.drew ?_ | refine Ext.drewN ?_ _ | refine Ext.alloc ?_ _))))).mono ?_); rintro e w1 ⟨rfl, hq⟩; replace HB := Lib.hid (HB.out.trans (Ext.trans (by repeat (first | exact Ext.refl _ | refine Ext.drew ?_ | refine Ext.drewN ?_ _ | refine Ext.alloc ?_ _)) hq)); clear hq))
      | (go_at_call 13; go_loud ((with_reducible refine (great_any n c A _ hn).mono ?_); rintro e w1 ⟨rfl, hq⟩; replace HB := Lib.hid (HB.out.trans (Ext.trans (by repeat (first | exact Ext.refl _ | refine Ext.drew ?_ | refine Ext.drewN ?_ _ | refine Ext.alloc ?_ _)) hq)); clear hq; rw [HGR.out])))
    go_ret
    exact ⟨rfl, HB.out⟩
  have HGR := Lib.hid hgr
  clear hgr
  by_cases ha : allE l = 0
  case neg =>
    obtain ⟨x, hx⟩ : ∃ x, allE l = x := ⟨_, rfl⟩
    have HAL := Lib.hid hx
    have hb : (x != 0) = true := by rw [hx] at ha; simpa using ha
    clear ha hx
    go_enter Tryd.func5, Tryd.ntmps5
    go_wp2_with (first
      | (go_at_call 12; go_loud ((with_reducible refine (alive_any _ (HG.out.ext (HB.out.trans (by repeat (first | exact Ext.refl _ | refine Ext.drew ?_ | refine Ext.drewN ?_ _ | refine Ext.alloc ?_ _))))).mono ?_); rintro e w1 ⟨rfl, hq⟩; replace HB := Lib.hid (HB.out.trans (Ext.trans (by repeat (first | exact Ext.refl _ | refine Ext.drew ?_ | refine Ext.drewN ?_ _ | refine Ext.alloc ?_ _)) hq)); clear hq))
      | (go_at_call 13; go_loud ((with_reducible refine (great_any n c A _ hn).mono ?_); rintro e w1 ⟨rfl, hq⟩; replace HB := Lib.hid (HB.out.trans (Ext.trans (by repeat (first | exact Ext.refl _ | refine Ext.drew ?_ | refine Ext.drewN ?_ _ | refine Ext.alloc ?_ _)) hq)); clear hq; rw [HGR.out]))
      | (go_at_call 14; go_loud ((with_reducible refine (rall_any n c A l _ (HX.out.ext (HB.out.trans (by repeat (first | exact Ext.refl _ | refine Ext.drew ?_ | refine Ext.drewN ?_ _ | refine Ext.alloc ?_ _)))) hn).mono ?_); rintro e w1 ⟨rfl, hq⟩; replace HB := Lib.hid (HB.out.trans (Ext.trans (by repeat (first | exact Ext.refl _ | refine Ext.drew ?_ | refine Ext.drewN ?_ _ | refine Ext.alloc ?_ _)) hq)); clear hq; rw [HAL.out])))
    go_ret
    exact ⟨rfl, HB.out⟩
  have HAL := Lib.hid ha
  by_cases h1 : at_ < 0
  case pos =>
    clear ha
    go_enter Tryd.func5, Tryd.ntmps5
    go_wp2_with (first
      | (go_at_call 12; go_loud ((with_reducible refine (alive_any _ (HG.out.ext (HB.out.trans (by repeat (first | exact Ext.refl _ | refine Ext.drew ?_ | refine Ext.drewN ?_ _ | refine Ext.alloc ?_ _))))).mono ?_); rintro e w1 ⟨rfl, hq⟩; replace HB := Lib.hid (HB.out.trans (Ext.trans (by repeat (first | exact Ext.refl _ | refine Ext.drew ?_ | refine Ext.drewN ?_ _ | refine Ext.alloc ?_ _)) hq)); clear hq))
      | (go_at_call 13; go_loud ((with_reducible refine (great_any n c A _ hn).mono ?_); rintro e w1 ⟨rfl, hq⟩; replace HB := Lib.hid (HB.out.trans (Ext.trans (by repeat (first | exact Ext.refl _ | refine Ext.drew ?_ | refine Ext.drewN ?_ _ | refine Ext.alloc ?_ _)) hq)); clear hq; rw [HGR.out]))
      | (go_at_call 14; go_loud ((with_reducible refine (rall_any n c A l _ (HX.out.ext (HB.out.trans (by repeat (first | exact Ext.refl _ | refine Ext.drew ?_ | refine Ext.drewN ?_ _ | refine Ext.alloc ?_ _)))) hn).mono ?_); rintro e w1 ⟨rfl, hq⟩; replace HB := Lib.hid (HB.out.trans (Ext.trans (by repeat (first | exact Ext.refl _ | refine Ext.drew ?_ | refine Ext.drewN ?_ _ | refine Ext.alloc ?_ _)) hq)); clear hq; rw [HAL.out])))
    go_ret
    exact ⟨rfl, HB.out⟩
  by_cases h2 : (n : Int) < at_
  case pos =>
    clear ha
    go_enter Tryd.func5, Tryd.ntmps5
    go_wp2_with (first
      | (go_at_call 12; go_loud ((with_reducible refine (alive_any _ (HG.out.ext (HB.out.trans (by repeat (first | exact Ext.refl _ | refine Ext.drew ?_ | refine Ext.drewN ?_ _ | refine Ext.alloc ?_ _))))).mono ?_); rintro e w1 ⟨rfl, hq⟩; replace HB := Lib.hid (HB.out.trans (Ext.trans (by repeat (first | exact Ext.refl _ | refine Ext.drew ?_ | refine Ext.drewN ?_ _ | refine Ext.alloc ?_ _)) hq)); clear hq))
      | (go_at_call 13; go_loud ((with_reducible refine (great_any n c A _ hn).mono ?_); rintro e w1 ⟨rfl, hq⟩; replace HB := Lib.hid (HB.out.trans (Ext.trans (by repeat (first | exact Ext.refl _ | refine Ext.drew ?_ | refine Ext.drewN ?_ _ | refine Ext.alloc ?_ _)) hq)); clear hq; rw [HGR.out]))
      | (go_at_call 14; go_loud ((with_reducible refine (rall_any n c A l _ (HX.out.ext (HB.out.trans (by repeat (first | exact Ext.refl _ | refine Ext.drew ?_ | refine Ext.drewN ?_ _ | refine Ext.alloc ?_ _)))) hn).mono ?_); rintro e w1 ⟨rfl, hq⟩; replace HB := Lib.hid (HB.out.trans (Ext.trans (by repeat (first | exact Ext.refl _ | refine Ext.drew ?_ | refine Ext.drewN ?_ _ | refine Ext.alloc ?_ _)) hq)); clear hq; rw [HAL.out])))
    go_ret
    exact ⟨rfl, HB.out⟩
  obtain ⟨k, rfl⟩ : ∃ k : Nat, at_ = (k : Int) := ⟨at_.toNat, by omega⟩
  have hk : k ≤ n := by omega
  have hn200 : n ≤ 200 := by rw [← hnl]; exact (allE_e ha).1
  obtain ⟨r, hr⟩ : ∃ r, n - k = r := ⟨_, rfl⟩
  have HXA := Lib.hid (HX.out.first hk)
  have hxb := HX.out.rest hk
  rw [hr] at hxb
  have HXB := Lib.hid hxb
  clear hxb
  have hsp : l.take k ++ l.drop k = l := List.take_append_drop k l
  have hla : (l.take k).length = k := by rw [List.length_take]; omega
  have hlb : (l.drop k).length = r := by rw [List.length_drop]; omega
  generalize l.take k = la at *
  generalize l.drop k = lb at *
  subst hsp
  obtain ⟨ha1, ha2⟩ := part_all ha
  have HA1 := Lib.hid ha1
  have HA2 := Lib.hid ha2
  have hs1 := sum_nonneg (allE_e ha1).2.1
  have hs2 := sum_nonneg (allE_e ha2).2.1
  obtain ⟨-, -, hs3, hs4⟩ := allE_e ha
  rw [usL_app] at hs3
  rw [mkL_app] at hs4
  have HU := Lib.hid (usL_app la lb)
  have HM := Lib.hid (mkL_app la lb)
  have HT := Lib.hid (turnL_app la lb)
  have HTN := Lib.hid (show (turnL lb ++ turnL la).length = n by rw [List.length_append, turnL_len, turnL_len]; omega)
  have HTN1 := Lib.hid (show (turnL la).length = k by rw [turnL_len]; exact hla)
  have HTN2 := Lib.hid (show (turnL lb).length = r by rw [turnL_len]; exact hlb)
  obtain ⟨U1, hU1⟩ : ∃ U, usL la = U := ⟨_, rfl⟩
  obtain ⟨U2, hU2⟩ : ∃ U, usL lb = U := ⟨_, rfl⟩
  obtain ⟨M1, hM1⟩ : ∃ U, mkL la = U := ⟨_, rfl⟩
  obtain ⟨M2, hM2⟩ : ∃ U, mkL lb = U := ⟨_, rfl⟩
  obtain ⟨T1, hT1⟩ : ∃ T, turnL la = T := ⟨_, rfl⟩
  obtain ⟨T2, hT2⟩ : ∃ T, turnL lb = T := ⟨_, rfl⟩
  rw [hU1, hU2] at HU hs3
  rw [hM1, hM2] at HM hs4
  rw [hU1, hM1] at hs1
  rw [hU2, hM2] at hs2
  rw [hT1, hT2] at HT HTN
  rw [hT1] at HTN1
  rw [hT2] at HTN2
  have HU1 := Lib.hid hU1
  have HU2 := Lib.hid hU2
  have HM1 := Lib.hid hM1
  have HM2 := Lib.hid hM2
  have HT1 := Lib.hid hT1
  have HT2 := Lib.hid hT2
  obtain ⟨hs11, hs12⟩ := hs1
  obtain ⟨hs21, hs22⟩ := hs2
  have i1 := IntWalk.i64_in (U1 + U2) ⟨by omega, by omega⟩
  have i2 := IntWalk.i64_in (M1 + M2) ⟨by omega, by omega⟩
  have q0 : (0 : Int) ≤ (k : Int) := by omega
  have q1 : (k : Int) ≤ (n : Int) := by omega
  have q2 : (k : Int) ≤ (c : Int) := by omega
  have q3 : (n : Int) ≤ (c : Int) := by omega
  clear hU1 hU2 hM1 hM2 hT1 hT2 ha ha1 ha2 hla hlb hnl
  have HSZ := Lib.hid (show shSt.size = 4 from rfl)
  have HAT := Lib.hid (show k < n → ∃ b off, A = some ⟨b, off, none⟩ from fun h => by
    obtain ⟨b, off, e, _⟩ := HX.out.2 (by omega)
    exact ⟨b, off, e⟩)
  by_cases hck : c = k
  case pos =>
    have hce : ∀ (x y : Option Addr), (if c = k then x else y) = x := fun x y => if_pos hck
    obtain rfl : r = 0 := by omega
    have HQK := Lib.hid (show ¬ k < n by omega)
    clear hck
    go_enter Tryd.func5, Tryd.ntmps5
    go_wp2_with (first
      | (go_at_call 12; go_loud ((with_reducible refine (alive_any _ (HG.out.ext (HB.out.trans (by repeat (first | exact Ext.refl _ | refine Ext.drew ?_ | refine Ext.drewN ?_ _ | refine Ext.alloc ?_ _))))).mono ?_); rintro e w1 ⟨rfl, hq⟩; replace HB := Lib.hid (HB.out.trans (Ext.trans (by repeat (first | exact Ext.refl _ | refine Ext.drew ?_ | refine Ext.drewN ?_ _ | refine Ext.alloc ?_ _)) hq)); clear hq))
      | (go_at_call 13; go_loud ((with_reducible refine (great_any n c A _ hn).mono ?_); rintro e w1 ⟨rfl, hq⟩; replace HB := Lib.hid (HB.out.trans (Ext.trans (by repeat (first | exact Ext.refl _ | refine Ext.drew ?_ | refine Ext.drewN ?_ _ | refine Ext.alloc ?_ _)) hq)); clear hq; rw [HGR.out]))
      | (go_at_call 14; go_loud ((with_reducible refine (rall_any n c A (la ++ lb) _ (HX.out.ext (HB.out.trans (by repeat (first | exact Ext.refl _ | refine Ext.drew ?_ | refine Ext.drewN ?_ _ | refine Ext.alloc ?_ _)))) hn).mono ?_); rintro e w1 ⟨rfl, hq⟩; replace HB := Lib.hid (HB.out.trans (Ext.trans (by repeat (first | exact Ext.refl _ | refine Ext.drew ?_ | refine Ext.drewN ?_ _ | refine Ext.alloc ?_ _)) hq)); clear hq; rw [HAL.out]))
      | (go_at_call 10; (first | ((with_reducible refine (uses_c (HX.out.ext (HB.out.trans (by repeat (first | exact Ext.refl _ | refine Ext.drew ?_ | refine Ext.drewN ?_ _ | refine Ext.alloc ?_ _)))) HAL.out HU.out).mono ?_); rintro e w1 ⟨rfl, hq⟩; replace HB := Lib.hid (HB.out.trans (Ext.trans (by repeat (first | exact Ext.refl _ | refine Ext.drew ?_ | refine Ext.drewN ?_ _ | refine Ext.alloc ?_ _)) hq)); clear hq) | ((with_reducible refine (uses_c (HXA.out.ext (HB.out.trans (by repeat (first | exact Ext.refl _ | refine Ext.drew ?_ | refine Ext.drewN ?_ _ | refine Ext.alloc ?_ _)))) HA1.out HU1.out).mono ?_); rintro e w1 ⟨rfl, hq⟩; replace HB := Lib.hid (HB.out.trans (Ext.trans (by repeat (first | exact Ext.refl _ | refine Ext.drew ?_ | refine Ext.drewN ?_ _ | refine Ext.alloc ?_ _)) hq)); clear hq) | (go_loud ((with_reducible refine (uses_c ((HXB.out _ (fun h => absurd h HQK.out)).ext (HB.out.trans (by repeat (first | exact Ext.refl _ | refine Ext.drew ?_ | refine Ext.drewN ?_ _ | refine Ext.alloc ?_ _)))) HA2.out HU2.out).mono ?_); rintro e w1 ⟨rfl, hq⟩; replace HB := Lib.hid (HB.out.trans (Ext.trans (by repeat (first | exact Ext.refl _ | refine Ext.drew ?_ | refine Ext.drewN ?_ _ | refine Ext.alloc ?_ _)) hq)); clear hq))))
      | (go_at_call 11; (first | ((with_reducible refine (makes_c (HX.out.ext (HB.out.trans (by repeat (first | exact Ext.refl _ | refine Ext.drew ?_ | refine Ext.drewN ?_ _ | refine Ext.alloc ?_ _)))) HAL.out HM.out).mono ?_); rintro e w1 ⟨rfl, hq⟩; replace HB := Lib.hid (HB.out.trans (Ext.trans (by repeat (first | exact Ext.refl _ | refine Ext.drew ?_ | refine Ext.drewN ?_ _ | refine Ext.alloc ?_ _)) hq)); clear hq) | ((with_reducible refine (makes_c (HXA.out.ext (HB.out.trans (by repeat (first | exact Ext.refl _ | refine Ext.drew ?_ | refine Ext.drewN ?_ _ | refine Ext.alloc ?_ _)))) HA1.out HM1.out).mono ?_); rintro e w1 ⟨rfl, hq⟩; replace HB := Lib.hid (HB.out.trans (Ext.trans (by repeat (first | exact Ext.refl _ | refine Ext.drew ?_ | refine Ext.drewN ?_ _ | refine Ext.alloc ?_ _)) hq)); clear hq) | ((with_reducible refine (makes_c ((HXB.out _ (fun h => absurd h HQK.out)).ext (HB.out.trans (by repeat (first | exact Ext.refl _ | refine Ext.drew ?_ | refine Ext.drewN ?_ _ | refine Ext.alloc ?_ _)))) HA2.out HM2.out).mono ?_); rintro e w1 ⟨rfl, hq⟩; replace HB := Lib.hid (HB.out.trans (Ext.trans (by repeat (first | exact Ext.refl _ | refine Ext.drew ?_ | refine Ext.drewN ?_ _ | refine Ext.alloc ?_ _)) hq)); clear hq)))
      | (go_at_call 15; (first | ((with_reducible refine (turn_c n (HX.out.ext (HB.out.trans (by repeat (first | exact Ext.refl _ | refine Ext.drew ?_ | refine Ext.drewN ?_ _ | refine Ext.alloc ?_ _)))) HAL.out HT.out HTN.out).mono ?_); rintro e w1 ⟨A1, c1, rfl, hq, hv⟩; have HV1 := Lib.hid hv; clear hv; replace HB := Lib.hid (HB.out.trans (Ext.trans (by repeat (first | exact Ext.refl _ | refine Ext.drew ?_ | refine Ext.drewN ?_ _ | refine Ext.alloc ?_ _)) hq)); clear hq) | ((with_reducible refine (turn_c k (HXA.out.ext (HB.out.trans (by repeat (first | exact Ext.refl _ | refine Ext.drew ?_ | refine Ext.drewN ?_ _ | refine Ext.alloc ?_ _)))) HA1.out HT1.out HTN1.out).mono ?_); rintro e w1 ⟨A2, c2, rfl, hq, hv⟩; replace HV1 := Lib.hid (HV1.out.ext (Ext.trans (by repeat (first | exact Ext.refl _ | refine Ext.drew ?_ | refine Ext.drewN ?_ _ | refine Ext.alloc ?_ _)) hq)); have HV2 := Lib.hid hv; clear hv; replace HB := Lib.hid (HB.out.trans (Ext.trans (by repeat (first | exact Ext.refl _ | refine Ext.drew ?_ | refine Ext.drewN ?_ _ | refine Ext.alloc ?_ _)) hq)); clear hq) | ((with_reducible refine (turn_c _ ((HXB.out _ (fun h => absurd h HQK.out)).ext (HB.out.trans (by repeat (first | exact Ext.refl _ | refine Ext.drew ?_ | refine Ext.drewN ?_ _ | refine Ext.alloc ?_ _)))) HA2.out HT2.out HTN2.out).mono ?_); rintro e w1 ⟨A3, c3, rfl, hq, hv⟩; replace HV1 := Lib.hid (HV1.out.ext (Ext.trans (by repeat (first | exact Ext.refl _ | refine Ext.drew ?_ | refine Ext.drewN ?_ _ | refine Ext.alloc ?_ _)) hq)); replace HV2 := Lib.hid (HV2.out.ext (Ext.trans (by repeat (first | exact Ext.refl _ | refine Ext.drew ?_ | refine Ext.drewN ?_ _ | refine Ext.alloc ?_ _)) hq)); have HV3 := Lib.hid hv; clear hv; have HV1W := HV1; have HBW := Lib.hid (HB.out.trans (Ext.trans (by repeat (first | exact Ext.refl _ | refine Ext.drew ?_ | refine Ext.drewN ?_ _ | refine Ext.alloc ?_ _)) hq)); replace HB := Lib.hid (HB.out.trans (Ext.trans (by repeat (first | exact Ext.refl _ | refine Ext.drew ?_ | refine Ext.drewN ?_ _ | refine Ext.alloc ?_ _)) hq)); clear hq)))
      | (at_builtin; (first | (refine wpList_append_vecsG (S := shSt) (w := w1) (xs := T2) 24 23 (.agg #[.int .u8 0, .bool false, .int .i64 0, .int .i64 0]) 24 (by first | rfl | (simp [Region.wanted, yielded]; done) | (simp [Region.wanted, yielded, go_sem]; done)) (by rfl) Tryd.underlying24 info_st (by rfl) (by omega) (by rfl) (by rfl) (OwnV.empty_ shSt (heap_alloc_new _ _) (Nat.le_refl _)) ((Ext.refl _).alloc _) (HV3.out.ext ((Ext.refl _).alloc _)) (by omega) ?_; intro v5 w5 hown5 hext5; replace HV1 := Lib.hid (HV1.out.ext hext5.out); replace HV2 := Lib.hid (HV2.out.ext hext5.out); replace HB := Lib.hid (HB.out.trans hext5.out); have HO5 := Lib.hid hown5; clear hown5) | (go_loud (refine wpList_append_vecsG (S := shSt) (w := w1) (xs := T1) 24 23 (.agg #[.int .u8 0, .bool false, .int .i64 0, .int .i64 0]) 24 (by first | rfl | (simp [Region.wanted, yielded]; done) | (simp [Region.wanted, yielded, go_sem]; done)) (by rfl) Tryd.underlying24 info_st (by rfl) (by omega) (by rfl) (by rfl) HO5.out hext5.out HV2.out (by omega) ?_; intro v6 w6 hown6 hext6; obtain ⟨A9, c9, rfl, hv9, -⟩ := own_vecB hown6; simp only [Nat.zero_add] at hv9; replace HV1 := Lib.hid (HV1W.out.ext hext6.out); replace HB := Lib.hid (HBW.out.trans hext6.out); have HV9 := Lib.hid (show Vec shSt w6 A9 _ (T2 ++ T1) from hv9); clear hown6 hv9))))
      | (go_at_call 16; go_loud ((with_reducible refine (rsame_any n _ _ _ _ _ (T2 ++ T1) (T2 ++ T1) _ HV1.out HV9.out hn).mono ?_); rintro e w7 ⟨rfl, hq⟩; rw [show decide (T2 ++ T1 = T2 ++ T1) = true from decide_eq_true rfl]; replace HB := Lib.hid (HB.out.trans (Ext.trans (by repeat (first | exact Ext.refl _ | refine Ext.drew ?_ | refine Ext.drewN ?_ _ | refine Ext.alloc ?_ _)) hq)); clear hq)))
    go_ret
    exact ⟨rfl, HB.out⟩
  go_enter Tryd.func5, Tryd.ntmps5
  go_wp2_with (first
    | (go_at_call 12; go_loud ((with_reducible refine (alive_any _ (HG.out.ext (HB.out.trans (by repeat (first | exact Ext.refl _ | refine Ext.drew ?_ | refine Ext.drewN ?_ _ | refine Ext.alloc ?_ _))))).mono ?_); rintro e w1 ⟨rfl, hq⟩; replace HB := Lib.hid (HB.out.trans (Ext.trans (by repeat (first | exact Ext.refl _ | refine Ext.drew ?_ | refine Ext.drewN ?_ _ | refine Ext.alloc ?_ _)) hq)); clear hq))
    | (go_at_call 13; go_loud ((with_reducible refine (great_any n c A _ hn).mono ?_); rintro e w1 ⟨rfl, hq⟩; replace HB := Lib.hid (HB.out.trans (Ext.trans (by repeat (first | exact Ext.refl _ | refine Ext.drew ?_ | refine Ext.drewN ?_ _ | refine Ext.alloc ?_ _)) hq)); clear hq; rw [HGR.out]))
    | (go_at_call 14; go_loud ((with_reducible refine (rall_any n c A (la ++ lb) _ (HX.out.ext (HB.out.trans (by repeat (first | exact Ext.refl _ | refine Ext.drew ?_ | refine Ext.drewN ?_ _ | refine Ext.alloc ?_ _)))) hn).mono ?_); rintro e w1 ⟨rfl, hq⟩; replace HB := Lib.hid (HB.out.trans (Ext.trans (by repeat (first | exact Ext.refl _ | refine Ext.drew ?_ | refine Ext.drewN ?_ _ | refine Ext.alloc ?_ _)) hq)); clear hq; rw [HAL.out]))
    | (go_at_call 10; (first | ((with_reducible refine (uses_c (HX.out.ext (HB.out.trans (by repeat (first | exact Ext.refl _ | refine Ext.drew ?_ | refine Ext.drewN ?_ _ | refine Ext.alloc ?_ _)))) HAL.out HU.out).mono ?_); rintro e w1 ⟨rfl, hq⟩; replace HB := Lib.hid (HB.out.trans (Ext.trans (by repeat (first | exact Ext.refl _ | refine Ext.drew ?_ | refine Ext.drewN ?_ _ | refine Ext.alloc ?_ _)) hq)); clear hq) | ((with_reducible refine (uses_c (HXA.out.ext (HB.out.trans (by repeat (first | exact Ext.refl _ | refine Ext.drew ?_ | refine Ext.drewN ?_ _ | refine Ext.alloc ?_ _)))) HA1.out HU1.out).mono ?_); rintro e w1 ⟨rfl, hq⟩; replace HB := Lib.hid (HB.out.trans (Ext.trans (by repeat (first | exact Ext.refl _ | refine Ext.drew ?_ | refine Ext.drewN ?_ _ | refine Ext.alloc ?_ _)) hq)); clear hq) | (go_loud ((with_reducible refine (uses_c ((HXB.out _ (fun h => (by obtain ⟨b, off, e⟩ := HAT.out h; refine ⟨b, off, e, ?_⟩; rw [HSZ.out, e]; simp [Addr.add]))).ext (HB.out.trans (by repeat (first | exact Ext.refl _ | refine Ext.drew ?_ | refine Ext.drewN ?_ _ | refine Ext.alloc ?_ _)))) HA2.out HU2.out).mono ?_); rintro e w1 ⟨rfl, hq⟩; replace HB := Lib.hid (HB.out.trans (Ext.trans (by repeat (first | exact Ext.refl _ | refine Ext.drew ?_ | refine Ext.drewN ?_ _ | refine Ext.alloc ?_ _)) hq)); clear hq))))
    | (go_at_call 11; (first | ((with_reducible refine (makes_c (HX.out.ext (HB.out.trans (by repeat (first | exact Ext.refl _ | refine Ext.drew ?_ | refine Ext.drewN ?_ _ | refine Ext.alloc ?_ _)))) HAL.out HM.out).mono ?_); rintro e w1 ⟨rfl, hq⟩; replace HB := Lib.hid (HB.out.trans (Ext.trans (by repeat (first | exact Ext.refl _ | refine Ext.drew ?_ | refine Ext.drewN ?_ _ | refine Ext.alloc ?_ _)) hq)); clear hq) | ((with_reducible refine (makes_c (HXA.out.ext (HB.out.trans (by repeat (first | exact Ext.refl _ | refine Ext.drew ?_ | refine Ext.drewN ?_ _ | refine Ext.alloc ?_ _)))) HA1.out HM1.out).mono ?_); rintro e w1 ⟨rfl, hq⟩; replace HB := Lib.hid (HB.out.trans (Ext.trans (by repeat (first | exact Ext.refl _ | refine Ext.drew ?_ | refine Ext.drewN ?_ _ | refine Ext.alloc ?_ _)) hq)); clear hq) | ((with_reducible refine (makes_c ((HXB.out _ (fun h => (by obtain ⟨b, off, e⟩ := HAT.out h; refine ⟨b, off, e, ?_⟩; rw [HSZ.out, e]; simp [Addr.add]))).ext (HB.out.trans (by repeat (first | exact Ext.refl _ | refine Ext.drew ?_ | refine Ext.drewN ?_ _ | refine Ext.alloc ?_ _)))) HA2.out HM2.out).mono ?_); rintro e w1 ⟨rfl, hq⟩; replace HB := Lib.hid (HB.out.trans (Ext.trans (by repeat (first | exact Ext.refl _ | refine Ext.drew ?_ | refine Ext.drewN ?_ _ | refine Ext.alloc ?_ _)) hq)); clear hq)))
    | (go_at_call 15; (first | ((with_reducible refine (turn_c n (HX.out.ext (HB.out.trans (by repeat (first | exact Ext.refl _ | refine Ext.drew ?_ | refine Ext.drewN ?_ _ | refine Ext.alloc ?_ _)))) HAL.out HT.out HTN.out).mono ?_); rintro e w1 ⟨A1, c1, rfl, hq, hv⟩; have HV1 := Lib.hid hv; clear hv; replace HB := Lib.hid (HB.out.trans (Ext.trans (by repeat (first | exact Ext.refl _ | refine Ext.drew ?_ | refine Ext.drewN ?_ _ | refine Ext.alloc ?_ _)) hq)); clear hq) | ((with_reducible refine (turn_c k (HXA.out.ext (HB.out.trans (by repeat (first | exact Ext.refl _ | refine Ext.drew ?_ | refine Ext.drewN ?_ _ | refine Ext.alloc ?_ _)))) HA1.out HT1.out HTN1.out).mono ?_); rintro e w1 ⟨A2, c2, rfl, hq, hv⟩; replace HV1 := Lib.hid (HV1.out.ext (Ext.trans (by repeat (first | exact Ext.refl _ | refine Ext.drew ?_ | refine Ext.drewN ?_ _ | refine Ext.alloc ?_ _)) hq)); have HV2 := Lib.hid hv; clear hv; replace HB := Lib.hid (HB.out.trans (Ext.trans (by repeat (first | exact Ext.refl _ | refine Ext.drew ?_ | refine Ext.drewN ?_ _ | refine Ext.alloc ?_ _)) hq)); clear hq) | ((with_reducible refine (turn_c _ ((HXB.out _ (fun h => (by obtain ⟨b, off, e⟩ := HAT.out h; refine ⟨b, off, e, ?_⟩; rw [HSZ.out, e]; simp [Addr.add]))).ext (HB.out.trans (by repeat (first | exact Ext.refl _ | refine Ext.drew ?_ | refine Ext.drewN ?_ _ | refine Ext.alloc ?_ _)))) HA2.out HT2.out HTN2.out).mono ?_); rintro e w1 ⟨A3, c3, rfl, hq, hv⟩; replace HV1 := Lib.hid (HV1.out.ext (Ext.trans (by repeat (first | exact Ext.refl _ | refine Ext.drew ?_ | refine Ext.drewN ?_ _ | refine Ext.alloc ?_ _)) hq)); replace HV2 := Lib.hid (HV2.out.ext (Ext.trans (by repeat (first | exact Ext.refl _ | refine Ext.drew ?_ | refine Ext.drewN ?_ _ | refine Ext.alloc ?_ _)) hq)); have HV3 := Lib.hid hv; clear hv; have HV1W := HV1; have HBW := Lib.hid (HB.out.trans (Ext.trans (by repeat (first | exact Ext.refl _ | refine Ext.drew ?_ | refine Ext.drewN ?_ _ | refine Ext.alloc ?_ _)) hq)); replace HB := Lib.hid (HB.out.trans (Ext.trans (by repeat (first | exact Ext.refl _ | refine Ext.drew ?_ | refine Ext.drewN ?_ _ | refine Ext.alloc ?_ _)) hq)); clear hq)))
    | (at_builtin; (first | (refine wpList_append_vecsG (S := shSt) (w := w1) (xs := T2) 24 23 (.agg #[.int .u8 0, .bool false, .int .i64 0, .int .i64 0]) 24 (by first | rfl | (simp [Region.wanted, yielded]; done) | (simp [Region.wanted, yielded, go_sem]; done)) (by rfl) Tryd.underlying24 info_st (by rfl) (by omega) (by rfl) (by rfl) (OwnV.empty_ shSt (heap_alloc_new _ _) (Nat.le_refl _)) ((Ext.refl _).alloc _) (HV3.out.ext ((Ext.refl _).alloc _)) (by omega) ?_; intro v5 w5 hown5 hext5; replace HV1 := Lib.hid (HV1.out.ext hext5.out); replace HV2 := Lib.hid (HV2.out.ext hext5.out); replace HB := Lib.hid (HB.out.trans hext5.out); have HO5 := Lib.hid hown5; clear hown5) | (go_loud (refine wpList_append_vecsG (S := shSt) (w := w1) (xs := T1) 24 23 (.agg #[.int .u8 0, .bool false, .int .i64 0, .int .i64 0]) 24 (by first | rfl | (simp [Region.wanted, yielded]; done) | (simp [Region.wanted, yielded, go_sem]; done)) (by rfl) Tryd.underlying24 info_st (by rfl) (by omega) (by rfl) (by rfl) HO5.out hext5.out HV2.out (by omega) ?_; intro v6 w6 hown6 hext6; obtain ⟨A9, c9, rfl, hv9, -⟩ := own_vecB hown6; simp only [Nat.zero_add] at hv9; replace HV1 := Lib.hid (HV1W.out.ext hext6.out); replace HB := Lib.hid (HBW.out.trans hext6.out); have HV9 := Lib.hid (show Vec shSt w6 A9 _ (T2 ++ T1) from hv9); clear hown6 hv9))))
    | (go_at_call 16; go_loud ((with_reducible refine (rsame_any n _ _ _ _ _ (T2 ++ T1) (T2 ++ T1) _ HV1.out HV9.out hn).mono ?_); rintro e w7 ⟨rfl, hq⟩; rw [show decide (T2 ++ T1 = T2 ++ T1) = true from decide_eq_true rfl]; replace HB := Lib.hid (HB.out.trans (Ext.trans (by repeat (first | exact Ext.refl _ | refine Ext.drew ?_ | refine Ext.drewN ?_ _ | refine Ext.alloc ?_ _)) hq)); clear hq)))
  go_ret
  exact ⟨rfl, HB.out⟩

set_option maxRecDepth 100000 in
theorem stitchSums_lifted (os : Os) (started : os.Started) (H : Type) (enc : TypeId × Value → H) :
    ReturnsInHanded {} Tryd.checked os 5 .any (fun w args => (Rows.stitchSumsSpec.pre enc Tryd.prog Tryd.f5 [] false w args ∧ laidMetH Tryd.prog [("math/bits.deBruijn32tab", Rows.laid_math_bits_deBruijn32tab), ("math/bits.deBruijn64tab", Rows.laid_math_bits_deBruijn64tab), ("internal/strconv.uint64pow10", Rows.laid_internal_strconv_uint64pow10), ("unicode/utf8.acceptRanges", Rows.laid_unicode_utf8_acceptRanges), ("strconv.ErrRange", Rows.laid_strconv_ErrRange), ("strconv.ErrSyntax", Rows.laid_strconv_ErrSyntax), ("unicode/utf8.first", Rows.laid_unicode_utf8_first)] w) ∧ sizedMet enc Tryd.prog Tryd.f5 (OpenSpec.ofChange Rows.stitchSumsSpec) false w args)
      (Rows.stitchSumsSpec.post enc Tryd.prog Tryd.f5 false true false false) := by
  refine returns_laid (C := Tryd.checked) (X := fun w _ => laidMetH Tryd.prog [("math/bits.deBruijn32tab", Rows.laid_math_bits_deBruijn32tab), ("math/bits.deBruijn64tab", Rows.laid_math_bits_deBruijn64tab), ("internal/strconv.uint64pow10", Rows.laid_internal_strconv_uint64pow10), ("unicode/utf8.acceptRanges", Rows.laid_unicode_utf8_acceptRanges), ("strconv.ErrRange", Rows.laid_strconv_ErrRange), ("strconv.ErrSyntax", Rows.laid_strconv_ErrSyntax), ("unicode/utf8.first", Rows.laid_unicode_utf8_first)] w) (fun _ _ _ hh h => h.of_heap hh) own started (by kernel_rfl) Tryd.func5
    (ChangeSpec.witness_shaped (enc := enc) (C := Tryd.checked) (os := os) (X := fun w _ => laidMetH Tryd.prog [("math/bits.deBruijn32tab", Rows.laid_math_bits_deBruijn32tab), ("math/bits.deBruijn64tab", Rows.laid_math_bits_deBruijn64tab), ("internal/strconv.uint64pow10", Rows.laid_internal_strconv_uint64pow10), ("unicode/utf8.acceptRanges", Rows.laid_unicode_utf8_acceptRanges), ("strconv.ErrRange", Rows.laid_strconv_ErrRange), ("strconv.ErrSyntax", Rows.laid_strconv_ErrSyntax), ("unicode/utf8.first", Rows.laid_unicode_utf8_first)] w) false (World.laidAll Tryd.prog os [("math/bits.deBruijn32tab", Rows.laid_math_bits_deBruijn32tab), ("math/bits.deBruijn64tab", Rows.laid_math_bits_deBruijn64tab), ("internal/strconv.uint64pow10", Rows.laid_internal_strconv_uint64pow10), ("unicode/utf8.acceptRanges", Rows.laid_unicode_utf8_acceptRanges), ("strconv.ErrRange", Rows.laid_strconv_ErrRange), ("strconv.ErrSyntax", Rows.laid_strconv_ErrSyntax), ("unicode/utf8.first", Rows.laid_unicode_utf8_first)]) #[.slice none 0 0, .int .i64 0] 8 (World.laidAll_os _ _ _)
      (World.shaped_of_ZipB (by kernel_rfl) (by kernel_rfl)) (by kernel_rfl) (by kernel_rfl) (by kernel_rfl)
      (by rw [MakeChecks.laidMetH_plain _ _ _ (by kernel_rfl)]; exact laidMet_laidAll _ (by kernel_rfl) (by kernel_rfl))) ?_
  intro W base args ds gs before hval0 hW hL hsh
  have hval : ∀ (j : Nat) t v, Tryd.f5.params[j]? = some t → args[j]? = some v → Value.okWide Tryd.prog W .any base t v := hval0
  have hW' := hW
  obtain ⟨p, q, hA0, hV, rfl, hfz, hnd⟩ := hW
  have hA : DataW.TrodAll enc Tryd.prog W 0 (fun _ => true) true Tryd.f5.params.toList args.toList ds p := hA0
  rw [Tryd.params5] at hA hval
  obtain ⟨v0, vs0, d0, ds0, p0, q0, hargs, rfl, rfl, h0, r0⟩ := trodAll_cons hA
  obtain ⟨v1, vs1, d1, ds1, p1, q1, rfl, rfl, rfl, h1, r1⟩ := trodAll_cons r0
  obtain ⟨rfl, rfl, rfl⟩ := trodAll_nil r1
  obtain rfl : args = #[v0, v1] := by cases args; simp_all
  obtain ⟨rfl, rfl⟩ := trodVars_none hV
  obtain ⟨Aa, na, ca, a, rfl, hia, hma, hya, hka⟩ := open_sts_argc (hval 0 24 v0 rfl rfl) h0
  obtain ⟨at_, rfl, rfl, -, -⟩ := open_int Tryd.underlying3 (hval 1 3 v1 rfl rfl) h1
  rw [MakeChecks.laidMetH_plain _ _ _ (by kernel_rfl)] at hL
  have hG := glob_of hL hsh
  refine (stitchSums_walk na ca Aa a at_ W hia hma hka hG).mono fun e W' ⟨he, hg⟩ => ?_
  subst he
  exact ⟨_, rfl, law_post laid_out rfl Tryd.underlying4 (by kernel_rfl) rfl hW' rfl hg⟩

theorem stitchSums_holds : Rows.StitchSumsSaid :=
  OpenClaim.holds_of_wide 5 Tryd.f5 rfl rfl rfl rfl rfl rfl rfl ⟨rfl, rfl, rfl, rfl, rfl⟩ rfl rfl rfl rfl rfl (by kernel_rfl) Tryd.func5 (by kernel_rfl)
    (of_decide_eq_true (by kernel_rfl)) (by unfold Func.isWrapper; first | (rw [if_pos (by decide +kernel)]; kernel_rfl) | (rw [if_neg (by decide +kernel)]; exact ⟨rfl, rfl⟩))
    (fun os started H enc _ => stitchSums_lifted os started H enc)

theorem stitchSums_card : Rows.StitchSumsCardSaid :=
  Claim7.holds_tied_plain_at .later [] [.data, .data, .data, .data, .sentinel, .sentinel, .pinned] true (true, "b30b9956a0e476c9c38fc7de0fb13095e71481363dba7d65da5ce99ee671de54") true
    stitchSums_holds (fun _ h => by cases h) (by kernel_rfl) (fun _ h => by cases h) stitchSums_row_tie rfl ⟨rfl, rfl⟩ (by kernel_rfl) rfl
    (fun f fn hf hfn => by
      obtain rfl : f = 5 := Option.some.inj ((show Tryd.prog.funcNamed "raddle/raddlelaw25.StitchSums" = some 5 by kernel_rfl).symm.trans hf) |>.symm
      obtain rfl : fn = Tryd.f5 := (Option.some.inj (Tryd.func5.symm.trans hfn)).symm
      exact ⟨by kernel_rfl, fun j t ht => by
        rw [Tryd.params5] at ht
        have hm : t ∈ [24, 3] := by simpa using Array.mem_of_getElem? ht
        have hall : ([24, 3].all fun u => !Tryd.prog.wantsStandIn u) = true := by kernel_rfl
        exact (show Tryd.prog.wantsStandIn t = false by simpa using List.all_eq_true.1 hall t hm)⟩)
    (by kernel_rfl)
end Go.Proofs.YtpcefmopoceiiaaDoor
