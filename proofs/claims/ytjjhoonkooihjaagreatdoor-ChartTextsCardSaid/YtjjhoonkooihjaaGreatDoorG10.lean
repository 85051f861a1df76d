/- slices.Repeat of one stitch. -/
import Derived.Test.YtjjhoonkooihjaaGreatDoorG09
import Derived.Test.YtjjhoonkooihjaaGreatDoorG05
import Derived.Test.YtjjhoonkooihjaaGreatDoorG07
import Derived.Test.YtjjhoonkooihjaaGreatDoorG04
import Derived.Test.YtjjhoonkooihjaaGreatDoorG01
import Derived.Maps.AppendAt
namespace Go.Proofs.YtjjhoonkooihjaaGreatDoor
set_option maxRecDepth 100000
set_option maxRecDepth 100000
open Go.RowKit Go.ChangeShapes Go.WideShapes Go.Joins
section
variable {P : Program} {ops : Array Oper} {rest : List Oper} {o : Oper} {a : Act} {K : Act → World → Prop} {Q : Exit → Act → World → Prop} {E : Prop} {w wx : World}
theorem wp_copy_mid (e : TypeId) (size : Nat) {d s : Operand} (dT sT : TypeId) {g n B k m dn dc sn sc : Nat} {ad : Addr} {A X Y : List Value} (cs : List Value) (ho : o.op = .call { callee := .builtin .copy, args := #[d, s], argTypes := #[dT, sT] })
    (hu : P.underlying dT = some (.slice e)) (hsz : (P.info? e).map (·.size) = some size) (hd : a.eval d = .slice (some ⟨g, k, none⟩) dn dc) (hs : a.eval s = .slice (some ad) sn sc)
    (hown : wx.ownsRow B e size (.slice (some ⟨g, 0, none⟩) n n) n (A ++ X ++ Y)) (hk : A.length = k) (hm : m = sn.min dn) (hl : cs.length = m * size) (hX : X.length = cs.length) (hsrc : ∀ j u, cs[j]? = some u → wx.cell? (ad.add j) = some u) (h1 : ∀ v ∈ cs, v.oneCell' = true)
    (h : ∀ w1, Hid (w1.ownsRow B e size (.slice (some ⟨g, 0, none⟩) n n) n (A ++ cs ++ Y)) → Hid (But (some g) wx w1) → K (a.put o.dst (goInt m)) w1) : o.wp P a wx K Q := by
  obtain ⟨hrun, r1, r2⟩ := copy_mid (P := P) dT sT o.type e size (dc := dc) (sc := sc) hu hsz hown hk hm hl hX hsrc h1
  unfold Oper.wp
  simp [execOp, ho, resolve, invoke, builtin, hd, hs, hrun, Result.andThen]
  exact h _ (Lib.hid r1) (Lib.hid r2)
theorem wpList_copy_mid (e : TypeId) (size : Nat) {d s : Operand} (dT sT : TypeId) {g n B k m dn dc sn sc : Nat} {ad : Addr} {A X Y : List Value} (cs : List Value) (hgd : o.guard = none) (ho : o.op = .call { callee := .builtin .copy, args := #[d, s], argTypes := #[dT, sT] })
    (hu : P.underlying dT = some (.slice e)) (hsz : (P.info? e).map (·.size) = some size) (hd : a.eval d = .slice (some ⟨g, k, none⟩) dn dc) (hs : a.eval s = .slice (some ad) sn sc)
    (hown : wx.ownsRow B e size (.slice (some ⟨g, 0, none⟩) n n) n (A ++ X ++ Y)) (hk : A.length = k) (hm : m = sn.min dn) (hl : cs.length = m * size) (hX : X.length = cs.length) (hsrc : ∀ j u, cs[j]? = some u → wx.cell? (ad.add j) = some u) (h1 : ∀ v ∈ cs, v.oneCell' = true)
    (h : ∀ w1, Hid (w1.ownsRow B e size (.slice (some ⟨g, 0, none⟩) n n) n (A ++ cs ++ Y)) → Hid (But (some g) wx w1) → wpList P ops Q rest (a.put o.dst (goInt m)) w1) : wpList P ops Q (o :: rest) a wx :=
  wpList_plain hgd fun _ hK => wp_copy_mid e size dT sT cs ho hu hsz hd hs hown hk hm hl hX hsrc h1 fun w' g1 g2 => hK _ _ (h w' g1 g2)
theorem step_copy_mid (e : TypeId) (size : Nat) {d s : Operand} (dT sT : TypeId) {g n B k m dn dc sn sc : Nat} {ad : Addr} {A X Y : List Value} (cs : List Value) (hgd : o.guard = none) (ho : o.op = .call { callee := .builtin .copy, args := #[d, s], argTypes := #[dT, sT] })
    (hu : P.underlying dT = some (.slice e)) (hsz : (P.info? e).map (·.size) = some size) (hd : a.eval d = .slice (some ⟨g, k, none⟩) dn dc) (hs : a.eval s = .slice (some ad) sn sc)
    (hown : wx.ownsRow B e size (.slice (some ⟨g, 0, none⟩) n n) n (A ++ X ++ Y)) (hk : A.length = k) (hm : m = sn.min dn) (hl : cs.length = m * size) (hX : X.length = cs.length) (hsrc : ∀ j u, cs[j]? = some u → wx.cell? (ad.add j) = some u) (h1 : ∀ v ∈ cs, v.oneCell' = true)
    (h : ∀ w1, Hid (w1.ownsRow B e size (.slice (some ⟨g, 0, none⟩) n n) n (A ++ cs ++ Y)) → Hid (But (some g) wx w1) → K (a.put o.dst (goInt m)) w1) :
    if Region.wanted o (yielded ops a.tmps) = true then Oper.wp P o a wx K Q else E := by
  have hw : Region.wanted o (yielded ops a.tmps) = true := by simp [Region.wanted, hgd]
  rw [if_pos hw]
  exact wp_copy_mid e size dT sT cs ho hu hsz hd hs hown hk hm hl hX hsrc h1 h
theorem upon_copy_mid (ty e : TypeId) (size : Nat) (dT sT : TypeId) {g n B k m dn dc sn sc : Nat} {ad : Addr} {A X Y : List Value} (cs : List Value)
    (hu : P.underlying dT = some (.slice e)) (hsz : (P.info? e).map (·.size) = some size)
    (hown : wx.ownsRow B e size (.slice (some ⟨g, 0, none⟩) n n) n (A ++ X ++ Y)) (hk : A.length = k) (hm : m = sn.min dn) (hl : cs.length = m * size) (hX : X.length = cs.length) (hsrc : ∀ j u, cs[j]? = some u → wx.cell? (ad.add j) = some u) (h1 : ∀ v ∈ cs, v.oneCell' = true)
    (h : ∀ w1, Hid (w1.ownsRow B e size (.slice (some ⟨g, 0, none⟩) n n) n (A ++ cs ++ Y)) → Hid (But (some g) wx w1) → K (a.put o.dst (goInt m)) w1) :
    Oper.upon P o a K Q ((Sem.run P (Builtin.copy_ #[dT, sT] ty #[.slice (some ⟨g, k, none⟩) dn dc, .slice (some ad) sn sc]) wx).andThen fun a w' => Result.ok (Next.value a) w') := by
  obtain ⟨hrun, r1, r2⟩ := copy_mid (P := P) dT sT ty e size (dc := dc) (sc := sc) hu hsz hown hk hm hl hX hsrc h1
  rw [hrun]
  exact h _ (Lib.hid r1) (Lib.hid r2)
theorem gate_copy {T : Array TypeId} {ty : TypeId} {V : Array Value} {f : Value → World → Result Next} (h : Oper.upon P o a K Q ((Sem.run P (Builtin.copy_ T ty V) wx).andThen f)) : Oper.upon P o a K Q ((Sem.run P (Builtin.copy_ T ty V) wx).andThen f) := h
end
theorem split4 {α : Type} {L : List α} {m : Nat} (h : m ≤ L.length) : ∃ X Y, L = X ++ Y ∧ X.length = m := ⟨L.take m, L.drop m, (List.take_append_drop m L).symm, by simp; omega⟩
theorem rep_len (x : St) (k : Nat) : ((List.replicate k x).flatMap stc).length = k * 4 := by
  rw [show ((List.replicate k x).flatMap stc).length = (List.replicate k x).length * 4 from flat_len (S := shSt) _, List.length_replicate]
theorem size_st1 : (Tryz.prog.info? 54).map (·.size) = some 4 := by kernel_rfl
theorem rep_src {w : World} {B N g k m : Nat} {e : TypeId} {Y : List Value} {x : St} (h : w.ownsRow B e 4 (.slice (some ⟨g, 0, none⟩) N N) N ((List.replicate k x).flatMap stc ++ Y)) (hk : k ≤ N) (hm : m ≤ k) (j : Nat) (u : Value) (hu : ((List.replicate m x).flatMap stc)[j]? = some u) : w.cell? (Addr.add ⟨g, 0, none⟩ j) = some u := by
  have hj : j < m * 4 := by
    have := (List.getElem?_eq_some_iff.1 hu).1
    rwa [rep_len] at this
  have h1 := World.ownsRow.cellAt h j (by omega)
  obtain ⟨d, rfl⟩ : ∃ d, k = m + d := ⟨k - m, by omega⟩
  rw [← List.replicate_append_replicate, List.flatMap_append, List.append_assoc, List.getElem?_append_left (by rw [rep_len]; exact hj), hu] at h1
  rw [show Addr.add ⟨g, 0, none⟩ j = ⟨g, j, none⟩ by cases j <;> simp [Addr.add]]
  exact h1
theorem rep_join (x : St) (k m : Nat) (Y : List Value) : (List.replicate k x).flatMap stc ++ (List.replicate m x).flatMap stc ++ Y = (List.replicate (k + m) x).flatMap stc ++ Y := by
  rw [← List.replicate_append_replicate, List.flatMap_append]
theorem made_split {w1 : World} {B N : Nat} {e : TypeId} {v : Value} {M : List Value} (hN : 1 ≤ N) (h : Hid (w1.ownsRow B e 4 v N M)) : ∃ X Y : List Value, X.length = 4 ∧ Hid (w1.ownsRow B e 4 v N ([] ++ X ++ Y)) := by
  have hl : M.length = N * 4 := h.out.1
  obtain ⟨X, Y, hXY, hX⟩ := split4 (m := 4) (L := M) (by omega)
  subst hXY
  exact ⟨X, Y, hX, Lib.hid h.out⟩
set_option maxHeartbeats 4000000 in
theorem repeat_any (x : St) (N : Nat) (hN1 : 1 ≤ N) (hN2 : N ≤ 200) (w : World) (b off c : Nat) (hv : Vec shSt w (some ⟨b, off, none⟩) 1 [x]) :
    Calls Tryz.prog 65 #[.slice (some ⟨b, off, none⟩) 1 c, .int .i64 (N : Int)] w fun e w' => ∃ v, e = .returned v ∧ OwnV shSt w' w.heap.size 54 v N (List.replicate N x) ∧ Ext w w' := by
  have HV := Lib.hid (show ∀ j u, (stc x)[j]? = some u → w.cell? (Addr.add ⟨b, off, none⟩ j) = some u from fun j u hu => hv.cells_at j u (by rw [show [x].flatMap shSt.cells = stc x from List.append_nil _]; exact hu))
  have HM := Lib.hid (show ∀ w', Calls Tryz.prog 91 #[.int .u64 1, .int .u64 (N : Int)] w' fun e w'' => e = .returned (.tuple #[.int .u64 0, .int .u64 (N : Int)]) ∧ w'' = w' from fun w' => by
    have h := Tryz.bits_Mul 1 N (by omega) (by omega) w'
    rw [show 1 * N / 18446744073709551616 = 0 by omega, show 1 * N % 18446744073709551616 = N by omega] at h
    exact h)
  have q1 : (1 : Int) ≤ (N : Int) := by omega
  have q2 : (N : Int) ≤ 200 := by omega
  clear hv
  go_enter Tryz.func65, Tryz.ntmps65
  go_wp2_with (first
    | (go_at_call 91; ((with_reducible refine (HM.out _).mono ?_); rintro e w1 ⟨rfl, h9⟩; have h8 := h9.symm; clear h9; subst h8))
    | (at_make; go_loud (refine wpList_make_own 44 54 (.agg #[.int .u8 0, .bool false, .int .i64 0, .int .i64 0]) 4 24 N w.heap.size (by rfl) (by rfl) Tryz.underlying44 info_st (by rfl) (by omega) (by omega) (Nat.le_refl _) ?_; intro w1 HO1 HE1 hlt1); obtain ⟨X, Y, hX, HO2⟩ := made_split hN1 HO1; clear HO1)
    | (refine wpList_copy_mid 54 4 (k := 0) (m := 1) (A := []) 44 44 (stc x) (by rfl) (by rfl) Tryz.underlying44 size_st1 (by rfl) (by rfl) HO2.out rfl (show 1 = min 1 N by omega) rfl hX (fun j u hu => (by have h3 := HV.out j u hu; exact (Below.cell HE1.out (World.block_lt_of_cell? w _ h3)).trans h3)) (fun u hu => shSt.one x u hu) ?_; intro w2 HO3 HB3))
  have HO4 := Lib.hid (show w2.ownsRow w.heap.size 54 4 (.slice (some ⟨w.heap.size, 0, none⟩) N N) N ((List.replicate 1 x).flatMap stc ++ Y) from by
    have h9 := HO3.out
    rw [show [] ++ stc x ++ Y = (List.replicate 1 x).flatMap stc ++ Y by simp [List.flatMap]] at h9
    exact h9)
  have HE2 := Lib.hid (show Ext w w2 from But.below (But.trans (But.of_ext HE1.out _) HB3.out) (Nat.le_refl _) (fun k e => by cases e; exact Nat.le_refl _))
  clear HO3 HB3 HO2 hX X
  go_loopw [8] (fun i wr => ∃ (k : Nat) (Y : List Value), i = .int .i64 k ∧ 1 ≤ k ∧ k ≤ N ∧ Hid (wr.ownsRow w.heap.size 54 4 (.slice (some ⟨w.heap.size, 0, none⟩) N N) N ((List.replicate k x).flatMap stc ++ Y)) ∧ Hid (Ext w wr)) (fun i _ => N - (intOf i).toNat)
  case atStart => exact ⟨1, Y, rfl, Nat.le_refl _, hN1, HO4, HE2⟩
  case round =>
    obtain ⟨k, Y1, rfl, hk1, hk2, HO, HE⟩ := hrel
    have q3 : (1 : Int) ≤ (k : Int) := by omega
    have q4 : (k : Int) ≤ (N : Int) := by omega
    by_cases hlt : k < N
    · have q5 : (k : Int) < (N : Int) := by omega
      have hlen : ((List.replicate k x).flatMap stc ++ Y1).length = N * 4 := HO.out.1
      rw [List.length_append, rep_len] at hlen
      obtain ⟨X, Y2, hXY, hX⟩ := split4 (m := (min k (N - k)) * 4) (L := Y1) (by omega)
      subst hXY
      have HO5 := Lib.hid (show wr.ownsRow w.heap.size 54 4 (.slice (some ⟨w.heap.size, 0, none⟩) N N) N ((List.replicate k x).flatMap stc ++ X ++ Y2) from by
        rw [List.append_assoc]; exact HO.out)
      have HD := Lib.hid (World.ownsRow.drew HO5.out)
      have HSR := Lib.hid (show ∀ j u, ((List.replicate (min k (N - k)) x).flatMap stc)[j]? = some u → wr.drew.cell? (Addr.add ⟨w.heap.size, 0, none⟩ j) = some u from fun j u hu => rep_src (World.ownsRow.drew HO.out) hk2 (Nat.min_le_left _ _) j u hu)
      have HON := Lib.hid (show ∀ v ∈ (List.replicate (min k (N - k)) x).flatMap stc, v.oneCell' = true from fun u hu => by obtain ⟨y, _, hy⟩ := List.mem_flatMap.1 hu; exact shSt.one y u hy)
      have HXL := Lib.hid (show X.length = ((List.replicate (min k (N - k)) x).flatMap stc).length by rw [hX, rep_len])
      clear hlen hX HV HM HE1 hlt1
      go_wp2
      go_region_with ((with_reducible refine gate_copy ?_); go_loud (refine upon_copy_mid (wx := wr.drew) 3 54 4 44 44 _ Tryz.underlying44 size_st1 HD.out (rep_len x k) (show min k (N - k) = Nat.min k (N - k) from rfl) (rep_len x _) HXL.out HSR.out HON.out ?_; intro w5 HO6 HB6))
      have HE5 := Lib.hid (show Ext w w5 from But.below (But.trans (But.of_ext (Ext.drew HE.out) (some w.heap.size)) HB6.out) (Nat.le_refl _) (fun k e => by cases e; exact Nat.le_refl _))
      have HO7 := Lib.hid (show w5.ownsRow w.heap.size 54 4 (.slice (some ⟨w.heap.size, 0, none⟩) N N) N ((List.replicate (k + min k (N - k)) x).flatMap stc ++ Y2) from by
        rw [← rep_join]
        exact HO6.out)
      clear HO6 HB6
      have hw : IntKind.i64.wrap ((k : Int) + ((min k (N - k) : Nat) : Int)) = ((k + min k (N - k) : Nat) : Int) := by
        have e := IntWalk.i64_in ((k : Int) + ((min k (N - k) : Nat) : Int)) ⟨by omega, by omega⟩
        rw [e]
        omega
      go_roundw
      case rel =>
        exact ⟨.int .i64 (IntKind.i64.wrap ((k : Int) + ((min k (N - k) : Nat) : Int))), _, _, _, _, _, _, _, _, _, _, _, _, _, ⟨k + min k (N - k), Y2, by rw [hw], by omega, by omega, HO7, HE5⟩, rfl⟩
      case measure =>
        show N - (IntKind.i64.wrap ((k : Int) + ((min k (N - k) : Nat) : Int))).toNat < N - ((k : Nat) : Int).toNat
        rw [hw]
        omega
    · obtain rfl : k = N := by omega
      have hlen : ((List.replicate k x).flatMap stc ++ Y1).length = k * 4 := HO.out.1
      rw [List.length_append, rep_len] at hlen
      obtain rfl : Y1 = [] := List.eq_nil_of_length_eq_zero (by omega)
      have HO5 := Lib.hid (show OwnV shSt wr w.heap.size 54 (.slice (some ⟨w.heap.size, 0, none⟩) k k) k (List.replicate k x) from by
        have h9 := HO.out
        rw [List.append_nil] at h9
        exact h9)
      go_wp2
      exact bodyPost_ret (v := .slice (some ⟨w.heap.size, 0, none⟩) k k) (by simp [results, Tryz.f65, go_sem]) rfl ⟨_, rfl, HO5.out, HE.out⟩
end Go.Proofs.YtjjhoonkooihjaaGreatDoor
/- Parse of stitches. -/
namespace Go.Proofs.YtjjhoonkooihjaaGreatDoor
set_option maxRecDepth 100000
set_option maxRecDepth 100000
open Go.RowKit Go.ChangeShapes Go.WideShapes Go.Joins
theorem kindL_rng (c : UInt8) : 0 ≤ kindL c ∧ kindL c ≤ 255 := by
  unfold kindL
  repeat' split
  all_goals omega
theorem readK_rng (p : Bool) (c : UInt8) (r : List UInt8) : 0 ≤ (readK p c r).k ∧ (readK p c r).k ≤ 255 := kindL_rng c
theorem readW_rng (l : List UInt8) : (1 ≤ (readW l).2 ∧ (readW l).2 ≤ 201) ∧ 0 ≤ (readW l).1.k ∧ (readW l).1.k ≤ 255 := by
  have h0 : (0 : Int) ≤ st0.k ∧ st0.k ≤ 255 := by decide
  unfold readW
  repeat' split
  all_goals (refine ⟨⟨?_, ?_⟩, ?_, ?_⟩ <;> first | (simp; done) | (simp only; omega) | exact h0.1 | exact h0.2 | exact (readK_rng _ _ _).1 | exact (readK_rng _ _ _).2)
/-- what Parse returns -/
def parseE (s : List UInt8) : Int := if (parseL s).isSome then 0 else 12
def parseV (s : List UInt8) : List St := (parseL s).getD []
def ParseR (s : List UInt8) (w : World) (e : Ending) (w' : World) : Prop := ∃ v, e = .returned (.tuple #[v, .int .i64 (parseE s)]) ∧ OwnV shSt w' w.heap.size 54 v (parseV s).length (parseV s) ∧ Ext w w'
theorem parse_none {s : List UInt8} (h : parseL s = none) : parseE s = 12 ∧ parseV s = [] := by
  unfold parseE parseV
  rw [h]
  exact ⟨rfl, rfl⟩
theorem parse_some {s : List UInt8} {l : List St} (h : parseL s = some l) : parseE s = 0 ∧ parseV s = l := by
  unfold parseE parseV
  rw [h]
  exact ⟨rfl, rfl⟩
theorem parse_fail {s : List UInt8} {w w' : World} (h : parseL s = none) (hb : Ext w w') : ParseR s w (.returned (.tuple #[.slice none 0 0, .int .i64 12])) w' := by
  obtain ⟨h1, h2⟩ := parse_none h
  refine ⟨_, by rw [h1], ?_, hb⟩
  rw [h2]
  exact OwnV.nil _ _ _ _
theorem parse_done {s : List UInt8} {l : List St} {v : Value} {w w' : World} (h : parseL s = some l) (hv : OwnV shSt w' w.heap.size 54 v l.length l) (hb : Ext w w') : ParseR s w (.returned (.tuple #[v, .int .i64 0])) w' := by
  obtain ⟨h1, h2⟩ := parse_some h
  refine ⟨v, by rw [h1], ?_, hb⟩
  rw [h2]
  exact hv
theorem parseW_end {s : List UInt8} {acc : List St} (hs : s.length ≤ 3000) (h0 : s ≠ []) (h : parseGo [] (spl 32 s) = some acc) : parseL s = if allE acc = 0 ∧ textL acc = s then some acc else none := by
  rw [parseL, if_neg (by omega), parseW, if_neg h0, h]
  rfl
theorem parseW_bad {s : List UInt8} (hs : s.length ≤ 3000) (h0 : s ≠ []) (h : parseGo [] (spl 32 s) = none) : parseL s = none := by
  rw [parseL, if_neg (by omega), parseW, if_neg h0, h]
  rfl
theorem go_drop {ws : List (List UInt8)} {k : Nat} (hk : k < ws.length) (acc : List St) : parseGo acc (ws.drop k) = if okSt (readW (ws.getD k [])).1 = true ∧ (acc.length : Int) + (readW (ws.getD k [])).2 ≤ 200 then parseGo (acc ++ List.replicate (readW (ws.getD k [])).2.toNat (readW (ws.getD k [])).1) (ws.drop (k + 1)) else none := by
  rw [List.drop_eq_getElem_cons hk, parseGo, List.getD_eq_getElem?_getD, List.getElem?_eq_getElem hk]
  rfl
theorem str_cell {w : World} {g n : Nat} {ws : List (List UInt8)} (h : Vec shStr w (some ⟨g, 0, none⟩) n ws) {k : Nat} (hk : k < n) : w.cell? ⟨g, k, none⟩ = some (.string ⟨(ws.getD k []).toArray⟩) := by
  have hl := h.1
  have h1 := h.cells_at k (.string ⟨(ws.getD k []).toArray⟩) (by rw [flat_str, List.getElem?_map, List.getD_eq_getElem?_getD, List.getElem?_eq_getElem (by omega)]; rfl)
  rw [show Addr.add ⟨g, 0, none⟩ k = ⟨g, k, none⟩ by cases k <;> simp [Addr.add]] at h1
  exact h1
theorem spl_words_len (c : UInt8) (l : List UInt8) : (spl c l).length ≤ l.length + 1 ∧ ∀ x ∈ spl c l, x.length ≤ l.length := by
  induction l with
  | nil => simp [spl]
  | cons a l ih =>
    obtain ⟨i1, i2⟩ := ih
    unfold spl
    split
    · refine ⟨by simp; omega, fun x hx => ?_⟩
      rcases List.mem_cons.1 hx with rfl | hx
      · simp
      · have := i2 x hx; simp; omega
    · split
      · rename_i h t e
        rw [e] at i1 i2
        refine ⟨by simp at i1 ⊢; omega, fun x hx => ?_⟩
        rcases List.mem_cons.1 hx with rfl | hx
        · have := i2 h (by simp); simp; omega
        · have := i2 x (by simp [hx]); simp; omega
      · exact ⟨by simp, fun x hx => by simp at hx; subst hx; simp⟩
theorem OwnV.down {α : Type} {S : Shp α} {w : World} {B B' : Nat} {e : TypeId} {v : Value} {k : Nat} {L : List α} (h : OwnV S w B e v k L) (hb : B' ≤ B) : OwnV S w B' e v k L :=
  ⟨h.1, h.2.imp id fun ⟨g, cap, cur, h0, hB, r⟩ => ⟨g, cap, cur, h0, Nat.le_trans hb hB, r⟩⟩
theorem bytes_ok {l : List St} (h : allB l = true) : Bytes l := bytes_of fun s hs => by
  obtain ⟨hk, -⟩ := ok_e (List.all_eq_true.1 h s hs)
  rcases kind_cases hk with e | e | e | e | e | e | e | e | e | e <;> omega
theorem parse_long (l : List UInt8) (hl : 3000 < l.length) (h : (l.length : Int) ≤ 1000000000) (w : World) : Calls Tryz.prog 39 #[.string ⟨l.toArray⟩] w (ParseR l w) := by
  have h1 := Lib.hid (show parseL l = none by rw [parseL, if_pos hl])
  have h2 : (3000 : Int) < (l.length : Int) := by omega
  clear hl
  go_enter Tryz.func39, Tryz.ntmps39
  go_wp2_with fail
  go_ret2
  exact parse_fail h1.out (by repeat (first | exact Ext.refl _ | assumption | refine Ext.alloc ?_ _ | refine Ext.drew ?_ | refine Ext.drewN ?_ _ | refine Ext.trans ?_ (by assumption)))
set_option maxHeartbeats 4000000 in
theorem parse_main (l : List UInt8) (h0 : l ≠ []) (hl : l.length ≤ 3000) (w : World) (hg : Glob w) : Calls Tryz.prog 39 #[.string ⟨l.toArray⟩] w (ParseR l w) := by
  have HG := Lib.hid hg
  have HS := Lib.hid (split_any l 32 (by omega) w hg)
  have hwl := spl_words_len 32 l
  have HPE := Lib.hid (fun (acc : List St) (h : parseGo [] (spl 32 l) = some acc) => parseW_end hl h0 h)
  have HPB := Lib.hid (fun (h : parseGo [] (spl 32 l) = none) => parseW_bad hl h0 h)
  generalize spl 32 l = ws at *
  obtain ⟨hw1, hw2⟩ := hwl
  have HW := Lib.hid hw2
  have hlen : ¬ (3000 : Int) < (l.length : Int) := by omega
  have hE : (l == []) = false := by simpa using h0
  clear hg hw2 h0
  go_enter Tryz.func39, Tryz.ntmps39
  go_wp2_with (go_at_call 62; go_loud ((with_reducible refine HS.out.mono ?_); rintro e w1 ⟨g, n, rfl, hq1, hv1⟩; have HQ1 := Lib.hid hq1; have HV1 := Lib.hid hv1; clear hq1 hv1))
  have hn : ws.length = n := HV1.out.1
  have hn2 : n ≤ 3001 := by omega
  go_loopw [4, 15] (fun u i wr => ∃ (V : Value) (k : Nat) (acc : List St), V = u ∧ i = .int .i64 k ∧ k ≤ n ∧ acc.length ≤ 200 ∧ Hid (allB acc = true) ∧ Hid (OwnV shSt wr w1.heap.size 54 V acc.length acc) ∧ Hid (Ext w1 wr) ∧ Hid (parseGo [] ws = parseGo acc (ws.drop k))) (fun _ i _ => n - (intOf i).toNat)
  case atStart => exact ⟨_, 0, [], rfl, rfl, Nat.zero_le _, by simp, Lib.hid rfl, Lib.hid (OwnV.nil _ _ _ _), Lib.hid (Ext.refl _), Lib.hid rfl⟩
  case round =>
    obtain ⟨V, k, acc, rfl, rfl, hk, hal, HB, HV, HE1, HP⟩ := hrel
    have HE := Lib.hid (HQ1.out.trans HE1.out)
    obtain ⟨A9, c9, rfl, hv9, -⟩ := own_vecB HV.out
    have HV9 := Lib.hid hv9
    clear hv9
    by_cases hlt : k < n
    · have hcell := str_cell (Vec.ext HV1.out HE1.out) hlt
      have hz := World.block_lt_of_cell? wr _ hcell
      have hd := HP.out.trans (go_drop (ws := ws) (k := k) (by omega) acc)
      have hxl := HW.out (ws.getD k []) (by rw [List.getD_eq_getElem?_getD, List.getElem?_eq_getElem (by omega)]; exact List.getElem_mem _)
      generalize ws.getD k [] = x at *
      have HR := Lib.hid (fun (w' : World) (hg' : Glob w') => read_any x (by omega) w' hg')
      obtain ⟨⟨hm1, hm2⟩, hk0, hk1⟩ := readW_rng x
      generalize readW x = rd at *
      obtain ⟨⟨sk, sp, sa, sb⟩, m⟩ := rd
      simp only at hm1 hm2 hk0 hk1 hd
      obtain ⟨N, rfl⟩ : ∃ N : Nat, m = (N : Int) := ⟨m.toNat, by omega⟩
      rw [Int.toNat_natCast] at hd
      have HD := Lib.hid hd
      have q5 : (k : Int) < (n : Int) := by omega
      clear hd hxl HP HW
      by_cases hok : okSt ⟨sk, sp, sa, sb⟩ = true
      · have HOK := Lib.hid (show okE ⟨sk, sp, sa, sb⟩ = 0 by rw [okE, if_pos hok])
        by_cases hm : (acc.length : Int) + (N : Int) ≤ 200
        · have hm3 : ¬ (200 : Int) < (acc.length : Int) + (N : Int) := by omega
          have HF := Lib.hid (HD.out.trans (if_pos (And.intro hok hm)))
          have HOB := Lib.hid (show allB (acc ++ List.replicate N (⟨sk, sp, sa, sb⟩ : St)) = true by
            rw [allB_app, HB.out, Bool.true_and, allB, List.all_eq_true]
            intro y hy
            rw [List.eq_of_mem_replicate hy]
            exact hok)
          clear hok HD
          go_wp2_with (first
            | (go_at_call 63; go_loud ((with_reducible refine (HR.out _ (HG.out.ext HE.out)).mono ?_); rintro e w2 ⟨rfl, hq2⟩; have HQ2 := Lib.hid (HE.out.trans hq2); have HQ3 := Lib.hid (HE1.out.trans hq2); have HQ4 := Lib.hid hq2; clear hq2))
            | (go_at_call 64; go_loud ((with_reducible refine (check_any sk sp sa sb hk0 hk1 _).mono ?_); rintro e w3 ⟨rfl, hq3⟩; rw [HOK.out]; obtain ⟨hf1, hf2, hf3⟩ := hq3.facts; have HQ5 := Lib.hid hq3; clear hq3))
            | (go_at_call 65; go_loud ((refine (repeat_any ⟨sk, sp, sa, sb⟩ N (by omega) (by omega) _ _ _ _ (Vec.lit2 (by simp) rfl rfl)).mono ?_); rintro e w4 ⟨v4, rfl, hv4, hq4⟩; obtain ⟨A4, c4, rfl, hve4, -⟩ := own_vecB hv4; have HQ6 := Lib.hid hq4; have HV4 := Lib.hid hve4; clear hq4 hv4 hve4))
            | (at_builtin; go_loud (refine wpList_append_vecsB (S := shSt) (w := w1) (m := N) (xs := List.replicate N (⟨sk, sp, sa, sb⟩ : St)) 44 54 (.agg #[.int .u8 0, .bool false, .int .i64 0, .int .i64 0]) 24 (by rfl) (by rfl) Tryz.underlying44 info_st (by rfl) (by omega) (by rfl) (by rfl) (OwnV.ext (OwnV.ext HV.out HQ4.out) (Ext.trans (by repeat (first | exact Ext.refl _ | refine Ext.alloc ?_ _)) (HQ5.out.trans (Ext.trans (by repeat (first | exact Ext.refl _ | refine Ext.alloc ?_ _)) HQ6.out)))) (HQ3.out.trans (Ext.trans (by repeat (first | exact Ext.refl _ | refine Ext.alloc ?_ _)) (HQ5.out.trans (Ext.trans (by repeat (first | exact Ext.refl _ | refine Ext.alloc ?_ _)) HQ6.out)))) HV4.out (by omega) ?_; intro v' w6 hown6 hext6 hgr6)))
          have HN := Lib.hid (show OwnV shSt w6 w1.heap.size 54 v' (acc ++ List.replicate N (⟨sk, sp, sa, sb⟩ : St)).length (acc ++ List.replicate N (⟨sk, sp, sa, sb⟩ : St)) by
            rw [List.length_append, List.length_replicate]
            exact hown6)
          clear hown6 hgr6
          go_roundw
          case rel => exact ⟨v', k + 1, acc ++ List.replicate N (⟨sk, sp, sa, sb⟩ : St), rfl, by go_num, by omega, by rw [List.length_append, List.length_replicate]; omega, HOB, HN, hext6, HF⟩
          case measure => simp [intOf]; omega
        · have hm3 : (200 : Int) < (acc.length : Int) + (N : Int) := by omega
          have HF := Lib.hid (HPB.out (HD.out.trans (if_neg (fun h => hm h.2))))
          clear hok hm HD
          go_wp2_with (first
            | (go_at_call 63; go_loud ((with_reducible refine (HR.out _ (HG.out.ext HE.out)).mono ?_); rintro e w2 ⟨rfl, hq2⟩; have HQ2 := Lib.hid (HE.out.trans hq2); have HQ3 := Lib.hid (HE1.out.trans hq2); have HQ4 := Lib.hid hq2; clear hq2))
            | (go_at_call 64; go_loud ((with_reducible refine (check_any sk sp sa sb hk0 hk1 _).mono ?_); rintro e w3 ⟨rfl, hq3⟩; rw [HOK.out]; obtain ⟨hf1, hf2, hf3⟩ := hq3.facts; have HQ5 := Lib.hid hq3; clear hq3)))
          go_ret2
          exact parse_fail HF.out (HQ2.out.trans (Ext.trans (by repeat (first | exact Ext.refl _ | refine Ext.alloc ?_ _)) HQ5.out))
      · have HOK := Lib.hid (show okE ⟨sk, sp, sa, sb⟩ = 8 by rw [okE, if_neg hok])
        have HF := Lib.hid (HPB.out (HD.out.trans (if_neg (fun h => hok h.1))))
        clear hok HD
        go_wp2_with (first
          | (go_at_call 63; go_loud ((with_reducible refine (HR.out _ (HG.out.ext HE.out)).mono ?_); rintro e w2 ⟨rfl, hq2⟩; have HQ2 := Lib.hid (HE.out.trans hq2); have HQ3 := Lib.hid (HE1.out.trans hq2); have HQ4 := Lib.hid hq2; clear hq2))
          | (go_at_call 64; go_loud ((with_reducible refine (check_any sk sp sa sb hk0 hk1 _).mono ?_); rintro e w3 ⟨rfl, hq3⟩; rw [HOK.out]; obtain ⟨hf1, hf2, hf3⟩ := hq3.facts; have HQ5 := Lib.hid hq3; clear hq3)))
        go_ret2
        exact parse_fail HF.out (HQ2.out.trans (Ext.trans (by repeat (first | exact Ext.refl _ | refine Ext.alloc ?_ _)) HQ5.out))
    · obtain rfl : k = n := by omega
      have hfin : parseGo [] ws = some acc := by
        have h9 := HP.out
        rw [List.drop_of_length_le (by omega)] at h9
        exact h9
      have HL := Lib.hid (HPE.out acc hfin)
      have HVF := Lib.hid (OwnV.down HV.out HQ1.out.size)
      have HSA := Lib.hid (fun (w' : World) (hb : Ext wr w') => sall_any acc.length c9 A9 acc w' (HV9.out.ext hb) (by unfold maxLen; omega) (bytes_ok HB.out))
      have HTX := Lib.hid (fun (w' : World) (hb : Ext wr w') => text_any acc.length c9 A9 acc w' (HV9.out.ext hb) hal HB.out (HG.out.ext (HE.out.trans hb)))
      clear hfin HP HPE HPB HW
      by_cases hA : allE acc = 0
      · by_cases hT : textL acc = l
        · have HF := Lib.hid (HL.out.trans (if_pos (And.intro hA hT)))
          have HAE := Lib.hid hA
          have HTE := Lib.hid hT
          clear hA hT
          go_wp2_with (first
            | (go_at_call 46; go_loud ((with_reducible refine (HSA.out _ (Ext.refl _)).mono ?_); rintro e w2 ⟨rfl, hq2⟩; rw [HAE.out]; have HQ2 := Lib.hid hq2; clear hq2))
            | (go_at_call 54; go_loud ((with_reducible refine (HTX.out _ HQ2.out).mono ?_); rintro e w3 ⟨rfl, hq3⟩; rw [HTE.out]; have HQ3 := Lib.hid (HQ2.out.trans hq3); clear hq3)))
          go_ret2
          exact parse_done HF.out (HVF.out.ext HQ3.out) (HE.out.trans HQ3.out)
        · have HF := Lib.hid (HL.out.trans (if_neg (fun h => hT h.2)))
          have HAE := Lib.hid hA
          have hT2 : (textL acc == l) = false := by simpa using hT
          clear hA hT
          generalize textL acc = T at *
          go_wp2_with (first
            | (go_at_call 46; go_loud ((with_reducible refine (HSA.out _ (Ext.refl _)).mono ?_); rintro e w2 ⟨rfl, hq2⟩; rw [HAE.out]; have HQ2 := Lib.hid hq2; clear hq2))
            | (go_at_call 54; go_loud ((with_reducible refine (HTX.out _ HQ2.out).mono ?_); rintro e w3 ⟨rfl, hq3⟩; have HQ3 := Lib.hid (HQ2.out.trans hq3); clear hq3)))
          go_ret2
          exact parse_fail HF.out (HE.out.trans HQ3.out)
      · have HF := Lib.hid (HL.out.trans (if_neg (fun h => hA h.1)))
        generalize hae : allE acc = ae at *
        have hb8 : (ae != 0) = true := by simpa using hA
        clear hA
        go_wp2_with (first
          | (go_at_call 46; go_loud ((with_reducible refine (HSA.out _ (Ext.refl _)).mono ?_); rintro e w2 ⟨rfl, hq2⟩; have HQ2 := Lib.hid hq2; clear hq2)))
        go_ret2
        exact parse_fail HF.out (HE.out.trans HQ2.out)
set_option maxHeartbeats 4000000 in
theorem parse_nil (w : World) (hg : Glob w) : Calls Tryz.prog 39 #[.string ⟨([] : List UInt8).toArray⟩] w (ParseR [] w) := by
  have HG := Lib.hid hg
  have HS := Lib.hid (split_any [] 32 (by simp) w hg)
  have HR := Lib.hid (fun (w' : World) (hg' : Glob w') => read_any [] (by simp) w' hg')
  have HF := Lib.hid (show parseL [] = some [] by decide +kernel)
  have HSA := Lib.hid (fun (w' : World) => sall_any 0 0 none [] w' (Vec.none_ _ _ _) (by unfold maxLen; omega) (bytes_ok rfl))
  have HTX := Lib.hid (fun (w' : World) (hg' : Glob w') => text_any 0 0 none [] w' (Vec.none_ _ _ _) (by omega) rfl hg')
  clear hg
  go_enter Tryz.func39, Tryz.ntmps39
  go_wp2_with (go_at_call 62; go_loud ((with_reducible refine HS.out.mono ?_); rintro e w1 ⟨g, n, rfl, hq1, hv1⟩; have HQ1 := Lib.hid hq1; have HV1 := Lib.hid hv1; clear hq1 hv1))
  obtain rfl : n = 1 := HV1.out.1.symm
  go_loopw [4, 15] (fun u i wr => u = .slice none 0 0 ∧ i = .int .i64 0 ∧ Hid (Ext w1 wr)) (fun _ i _ => 0)
  case atStart => exact ⟨rfl, rfl, Lib.hid (Ext.refl _)⟩
  case round =>
    obtain ⟨rfl, rfl, HE1⟩ := hrel
    have HE := Lib.hid (HQ1.out.trans HE1.out)
    have hcell := str_cell (Vec.ext HV1.out HE1.out) (k := 0) (by omega)
    have hz := World.block_lt_of_cell? wr _ hcell
    rw [show (spl 32 []).getD 0 [] = ([] : List UInt8) from rfl] at hcell
    go_wp2_with (first
      | (go_at_call 63; go_loud ((with_reducible refine (HR.out _ (HG.out.ext HE.out)).mono ?_); rintro e w2 ⟨rfl, hq2⟩; have HQ2 := Lib.hid (HE.out.trans hq2); clear hq2))
      | (go_at_call 46; go_loud ((with_reducible refine (HSA.out _).mono ?_); rintro e w3 ⟨rfl, hq3⟩; rw [show allE [] = 0 from rfl]; have HQ3 := Lib.hid (HQ2.out.trans (Ext.trans (by repeat (first | exact Ext.refl _ | refine Ext.alloc ?_ _)) hq3)); clear hq3))
      | (go_at_call 54; go_loud ((with_reducible refine (HTX.out _ (HG.out.ext HQ3.out)).mono ?_); rintro e w4 ⟨rfl, hq4⟩; rw [show textL [] = [] from rfl]; have HQ4 := Lib.hid (HQ3.out.trans hq4); clear hq4)))
    go_ret2
    exact parse_done HF.out (OwnV.nil _ _ _ _) HQ4.out
theorem parse_any (l : List UInt8) (hl : l.length ≤ 1000000000) (w : World) (hg : Glob w) : Calls Tryz.prog 39 #[.string ⟨l.toArray⟩] w (ParseR l w) := by
  by_cases h : 3000 < l.length
  · exact parse_long l h (by omega) w
  · cases l with
    | nil => exact parse_nil w hg
    | cons c r => exact parse_main _ (by simp) (by omega) w hg
end Go.Proofs.YtjjhoonkooihjaaGreatDoor
/- The contract of Counts of charts. -/
namespace Go.Proofs.YtjjhoonkooihjaaGreatDoor
set_option maxRecDepth 100000
open Go.RowKit Go.ChangeShapes Go.WideShapes Go.Joins Go.Shelf
attribute [local go_sem] Oper.semAt_some
/-- what Counts returns -/
def CntR (s : Int) (l : List Ro) (w : World) (e : Ending) (w' : World) : Prop := ∃ (A : Option Addr) (n c : Nat), e = .returned (.tuple #[.slice A n c, .int .i64 (chkC s l)]) ∧ Ext w w' ∧ Ints w' A n (if chkC s l = 0 then cntC s l else []) ∧ ∀ b off, A = some ⟨b, off, none⟩ → w.heap.size ≤ b
theorem CntR.mk {s : Int} {l : List Ro} {w : World} {e : Ending} {w' : World} {x : Int} {xs : List Int} (A : Option Addr) (n c : Nat) (hx : chkC s l = x) (hl : (if chkC s l = 0 then cntC s l else []) = xs) (h1 : e = .returned (.tuple #[.slice A n c, .int .i64 x])) (h2 : Ext w w') (h3 : Ints w' A n xs) (h4 : ∀ b off, A = some ⟨b, off, none⟩ → w.heap.size ≤ b) : CntR s l w e w' :=
  ⟨A, n, c, by rw [hx]; exact h1, h2, by rw [hl]; exact h3, h4⟩
/-- the same, and the list has room for its numbers -/
def CntQ (s : Int) (l : List Ro) (w : World) (e : Ending) (w' : World) : Prop := ∃ (A : Option Addr) (n c : Nat), e = .returned (.tuple #[.slice A n c, .int .i64 (chkC s l)]) ∧ Ext w w' ∧ Ints w' A n (if chkC s l = 0 then cntC s l else []) ∧ (∀ b off, A = some ⟨b, off, none⟩ → w.heap.size ≤ b) ∧ n ≤ c
theorem CntQ.mk {s : Int} {l : List Ro} {w : World} {e : Ending} {w' : World} {x : Int} {xs : List Int} (A : Option Addr) (n c : Nat) (hx : chkC s l = x) (hl : (if chkC s l = 0 then cntC s l else []) = xs) (h1 : e = .returned (.tuple #[.slice A n c, .int .i64 x])) (h2 : Ext w w') (h3 : Ints w' A n xs) (h4 : ∀ b off, A = some ⟨b, off, none⟩ → w.heap.size ≤ b) (h5 : n ≤ c) : CntQ s l w e w' :=
  ⟨A, n, c, by rw [hx]; exact h1, h2, by rw [hl]; exact h3, h4, h5⟩
theorem CntQ.r {s : Int} {l : List Ro} {w : World} {e : Ending} {w' : World} (h : CntQ s l w e w') : CntR s l w e w' := by
  obtain ⟨A, n, c, h1, h2, h3, h4, -⟩ := h
  exact ⟨A, n, c, h1, h2, h3, h4⟩
theorem row_cap {w : World} {B k c : Nat} {e : TypeId} {A : Option Addr} {xs : List Value} (h : w.ownsRow B e 1 (.slice A k c) k xs) : k ≤ c := by
  rcases h.2 with ⟨h0, h1⟩ | ⟨g, cap, cur, h0, hB, hg, hnc, r⟩
  · omega
  · cases h0
    exact hnc
theorem info_int : (Tryz.prog.info? 3).map (fun i => (i.zero, i.size, i.bytes)) = some (some (.int .i64 0), 1, 8) := by kernel_rfl
theorem one_row (w : World) (B : Nat) (e : TypeId) (x : Int) (hB : B ≤ w.heap.size) : (w.alloc (.cells #[.int .i64 x] e)).ownsRow B e 1 (.slice (some ⟨w.heap.size, 0, none⟩) 1 1) 1 [.int .i64 x] :=
  ⟨rfl, .inr ⟨w.heap.size, 1, #[.int .i64 x], rfl, hB, heap_alloc_new w _, Nat.le_refl _, by unfold maxLen; omega, rfl, rfl⟩⟩
/-- what the frame of Counts is in a round -/
def cntF (w : World) (s : Int) (A : Option Addr) (m c g B Bc : Nat) (v7 v18 v19 : Value) : Act :=
  { tmps := #[.agg #[.int .i64 s, .slice A m c], .pointer (some ⟨w.heap.size, 0, none⟩), .slice none 0 0, .int .i64 0, .int .i64 0, .pointer (some ⟨B, 0, none⟩), undef, v7, .agg #[.int .i64 s, .slice A m c], .int .i64 0, .int .i64 0, .bool false, undef,
      .pointer (some ⟨w.heap.size, 0, none⟩), .int .i64 s, .slice (some ⟨g, 0, none⟩) 1 1, .agg #[.int .i64 s, .slice A m c], .func (.func 69) #[] #[.pointer (some ⟨Bc, 0, none⟩)], v18, v19, undef, undef, undef, undef, undef, undef], defers := [] }
def cntI (w : World) (s : Int) (B : Nat) (pre : List Cn) (W : World) : Prop := (∃ v, Boxed W B 39 v ∧ W.ownsRow w.heap.size 3 1 v (pre.length + 1) ((s :: pre.map (·.a)).map (Value.int .i64)) ∧ True) ∧ Below w.heap.size w W
def cntA (w : World) (s : Int) (A : Option Addr) (m c g B Bc : Nat) (x : Cn) (a' : Act) (W : World) : Prop :=
  ∃ Bx, B < Bx ∧ W.cell? ⟨Bx, 1, none⟩ = some (.int .i64 x.a) ∧ a' = cntF w s A m c g B Bc (.pointer (some ⟨Bx, 0, none⟩)) (.int .i64 x.i) (.agg #[.int .i64 x.b, .int .i64 x.a, .int .i64 x.e])
theorem cell3_mid (W : World) (u v x : Value) (T : TypeId) : (W.alloc (.cells #[u, v, x] T)).cell? ⟨W.heap.size, 1, none⟩ = some v := by
  have h : (W.alloc (.cells #[u, v, x] T)).heap[W.heap.size]? = some (.cells #[u, v, x] T) := heap_alloc_new W _
  rw [cell_of_row _ W.heap.size _ _ T (0, 0) h]
  rfl
/-- an append to numbers and the store of the slice keep the blocks of another type -/
theorem KpT.app {n₀ : Nat} {W w1 : World} {v v' : Value} {B k : Nat} {T t e : TypeId} {xs : List Value} {o : Obj} (hT : T ≠ e) (ht : T ≠ t) (hv : Boxed W B t v) (hr : W.ownsRow n₀ e 1 v k xs) (hg : (W.alloc o).grownBy w1 v.ownBlock) (hb : Below n₀ W (w1.setCell ⟨B, 0, none⟩ v')) : KpT n₀ T W (w1.setCell ⟨B, 0, none⟩ v') := by
  refine ⟨hb, fun b hty => ?_⟩
  have hlt := hty.lt
  have h1 : b ≠ B := by
    rintro rfl
    obtain ⟨cs, f, hc⟩ := hty
    have h9 := (show W.heap[_]? = _ from hv).symm.trans hc
    cases h9
    exact ht rfl
  have h2 : some b ≠ v.ownBlock := by
    rcases hr.2 with ⟨rfl, _⟩ | ⟨g, cap, cur, rfl, _, hgb, _⟩
    · simp [Value.ownBlock]
    · intro e'
      obtain rfl : b = g := by simpa [Value.ownBlock] using e'
      obtain ⟨cs, f, hc⟩ := hty
      rw [hgb] at hc
      cases hc
      exact hT rfl
  rw [Below.heap_setCell w1 ⟨B, 0, none⟩ v' b h1]
  exact (hg.block b (by simp; omega) h2).trans (Below.heap_alloc _ _ _ hlt)
set_option maxRecDepth 100000 in
set_option maxHeartbeats 4000000 in
theorem cnt_walk (s : Int) (A : Option Addr) (m c : Nat) (rows : List Ro) (w : World) (hr : Rws w (fun _ => True) A m rows) (h0 : chkC s rows = 0) :
    Calls Tryz.prog 17 #[.agg #[.int .i64 s, .slice A m c]] w (CntQ s rows w) := by
  have HR := Lib.hid (hr.mono (K' := fun b => b < w.heap.size) (fun b h _ => h))
  have HR0 := Lib.hid hr
  have HL := Lib.hid (show rows.length ≤ 100 from (chkC_ok h0).1)
  have HE := Lib.hid h0
  have HCT := Lib.hid (show (if chkC s rows = 0 then cntC s rows else []) = s :: (visG 0 s rows).map (·.a) by rw [if_pos h0, vis_cnt (chkC_ok h0).2.2.2]; rfl)
  obtain ⟨i0, hi, hz0, hz1, hz2⟩ := info_parts info_int
  have HI := Lib.hid hi
  have HZ0 := Lib.hid hz0
  have HZ1 := Lib.hid hz1
  have HZ2 := Lib.hid hz2
  clear hr h0 hi hz0 hz1 hz2
  refine (callsIn_wide (n := 3)).1 ?_
  refine callsIn_of_wp_marks Tryz.func17 rfl trivial ?_ rfl
  simp only [Tryz.ntmps17, List.size_toArray, List.length_cons, List.length_nil, Nat.reduceAdd, Nat.reduceSub, Array.replicate_succ, Array.replicate_zero, List.push_toArray, List.append_toArray, List.nil_append, List.cons_append]
  gi_wp2_with (first
    | (refine ⟨trivial, ?_⟩; gi_at_call 25; refine (callsIn_wide.2 (ccheck_any s A m c rows _ (HR0.out.ext (by repeat (first | exact Ext.refl _ | assumption | refine Ext.alloc ?_ _ | refine Ext.drew ?_ | refine Ext.drewN ?_ _ | refine Ext.trans ?_ (by assumption)))))).mono ?_; rintro e w1 ⟨rfl, hq1⟩; obtain ⟨hf1, hf2, hf3⟩ := hq1.facts; have hlt9 := hf3 w.heap.size (by simp); rw [HE.out])
    | (refine ⟨trivial, ?_⟩; gi_at_call 45; refine (callsIn_wide.2 (counted_any s A m c _)).mono ?_; rintro e w' ⟨rfl, rfl⟩))
  obtain ⟨W0, hW0⟩ : ∃ W0, ((w1.alloc (Obj.cells #[Value.int IntKind.i64 s] 3)).alloc (Obj.cells #[Value.slice (some ⟨w1.heap.size, 0, none⟩) 1 1] 39)).alloc (Obj.cells #[Value.int IntKind.i64 s, Value.slice A m c] 24) = W0 := ⟨_, rfl⟩
  have hsz : W0.heap.size = w1.heap.size + 3 := by rw [← hW0]; simp
  have hq2 : Ext w w1 := by repeat (first | exact Ext.refl _ | assumption | refine Ext.alloc ?_ _ | refine Ext.drew ?_ | refine Ext.drewN ?_ _ | refine Ext.trans ?_ (by assumption))
  have hB0 : Below w.heap.size w W0 := by rw [← hW0]; exact ((Ext.alloc (Ext.alloc (Ext.alloc hq2 _) _) _))
  have hc0 : W0.cell? ⟨w1.heap.size + 1 + 1, 0, none⟩ = some (.int .i64 s) := by rw [← hW0]; simp [go_sem]
  have hc1 : W0.cell? ⟨w1.heap.size + 1 + 1, 1, none⟩ = some (.slice A m c) := by rw [← hW0]; simp [go_sem]
  have bO : Boxed W0 (w1.heap.size + 1) 39 (.slice (some ⟨w1.heap.size, 0, none⟩) 1 1) := by
    rw [← hW0]
    have := (Boxed.new (w1.alloc (Obj.cells #[Value.int IntKind.i64 s] 3)) 39 (.slice (some ⟨w1.heap.size, 0, none⟩) 1 1)).alloc (Obj.cells #[Value.int IntKind.i64 s, Value.slice A m c] 24)
    simpa using this
  have rO : W0.ownsRow w.heap.size 3 1 (.slice (some ⟨w1.heap.size, 0, none⟩) 1 1) 1 [.int .i64 s] := by
    rw [← hW0]
    exact ((one_row w1 w.heap.size 3 s (by omega)).alloc _).alloc _
  clear hf1 hf2 hf3 hq1
  rw [hW0]
  clear hW0
  generalize hg : w1.heap.size = g at *
  clear hg
  have HB0 := Lib.hid hB0
  refine wpIn_rangeFunc_ownH (F := Fence.wide) (n := 3) rfl (by omega) (gf := 69) (lb := #[.pointer (some ⟨g + 1 + 1, 0, none⟩)]) rfl trivial enters_counted
    (counted_stops 2 (g + 1 + 1) w.heap.size s A m c rows (KpT w.heap.size 91) (by omega) (fun _ _ h => h.1) (fun _ _ b h => h.2 b) W0 (by omega) (by omega) hc0 hc1 (HR.out.ext hB0))
    (fun h k => KpT.trans h k) (KpT.put (by omega)) (Below.refl _ _) (fun _ => rfl)
    (cntI w s (g + 1)) (fun _ _ _ => False)
    (OwnFrom.and (Own.from (holdsRow_own w.heap.size (g + 1) 39 3 1 (fun pre : List Cn => pre.length + 1) (fun pre => (s :: pre.map (·.a)).map (Value.int .i64)) (fun _ _ => True)) _) (ownFrom_below (by omega) (by omega)))
    (fun _ _ _ _ _ hs _ _ => hs)
    ⟨⟨_, bO, rO, trivial⟩, hB0⟩
    (cntA w s A m c g (g + 1) (g + 1 + 1))
    (fun x a' => Own.from (fun _ A B row hs hg hr => by obtain ⟨Bx, h1, h2, h3⟩ := hs; exact ⟨Bx, h1, cell_kept h2 hg hr, h3⟩) _) ?assign ?body ?done ?stop
  case assign =>
    rintro l pre x W K ⟨⟨v, hv, hrow, -⟩, hB⟩ hK
    have hlt := hv.lt
    unfold encC
    gi_wp2
    exact hK _ _ ((KeepsOthers.alloc _ _).from _) (KpT.alloc (by omega) _) ⟨⟨v, hv.alloc _, hrow.alloc _, trivial⟩, hB.alloc (by omega) _⟩ ⟨W.heap.size, hlt, cell3_mid _ _ _ _ _, rfl⟩
  case body =>
    rintro l pre x a' W _ _ ⟨⟨v, hv, hrow, -⟩, hB⟩ ⟨Bx, hBx, hcx, rfl⟩ hpl
    have hpl2 := HL.out
    have hc := hv.cell
    have hz := World.block_lt_of_cell? W _ hcx
    simp only at hz
    unfold cntF
    gi_wp2_with (gi_at_builtin; refine wpListIn_append_own _ rfl _ _ 39 rfl w.heap.size 3 i0 (.int .i64 0) 1 8 Tryz.underlying39 HI.out HZ0.out HZ1.out HZ2.out rfl (by decide) _ _ _ rfl (hrow.alloc _) ⟨W.heap.size, 0, none⟩ 1 1 [.int .i64 x.a] rfl rfl (cell_one_new _ _ _) (by simp [Value.oneCell']) (by unfold maxLen; omega) (by omega) (by have := hB.size; simp; omega) ?_; intro v' w1 hown' hgrow _; obtain ⟨g', cap', rfl⟩ := ownsRow_succ hown'; obtain ⟨hv1, hv2, hr2, hk2, hb2⟩ := hv.appended (by decide) hrow hB.size (by omega) hown' hgrow; have hc1 := hv1.cell; have hf1 := hv1.frozen)
    exact ⟨hk2.from _, KpT.app (by decide) (by decide) hv hrow hgrow hb2, ⟨_, hv2, by simpa using hr2, trivial⟩, hB.trans hb2⟩
  case done =>
    rintro D ys W hD rfl ⟨⟨v, hv, hrow, -⟩, hB⟩ hK
    have hc := hv.cell
    obtain ⟨A9, c9, rfl⟩ : ∃ A9 c9, v = .slice A9 ((visG 0 s rows).length + 1) c9 := by
      obtain ⟨g', cap', h⟩ := ownsRow_succ hrow
      exact ⟨_, _, h⟩
    gi_wp2
    refine ⟨by simp, .inl ⟨_, _, rfl, run_takeDeferred hK, ?_⟩⟩
    refine ⟨.tuple #[.slice A9 ((visG 0 s rows).length + 1) c9, .int .i64 0], by simp [results, Tryz.f17, go_sem], ?_⟩
    exact CntQ.mk A9 _ c9 HE.out HCT.out rfl (hB.trans (belowK_b (w := w) (Nat.le_refl _) W D _ _ (by omega) hK rfl rfl)) (Ints.of_own (ownsRow_putObj hrow _ hK rfl)) (fun b off e => by subst e; have h5 := (own_blk hrow b (by simp [Value.ownBlock])).1; first | omega | (simp at h5; omega)) (row_cap hrow)
  case stop =>
    rintro D c pre W _ _ h _
    exact h.elim
set_option maxHeartbeats 1000000 in
theorem ccounts_q (s : Int) (A : Option Addr) (m c : Nat) (rows : List Ro) (w : World) (hr : Rws w (fun _ => True) A m rows) :
    Calls Tryz.prog 17 #[.agg #[.int .i64 s, .slice A m c]] w (CntQ s rows w) := by
  by_cases h0 : chkC s rows = 0
  · exact cnt_walk s A m c rows w hr h0
  · have HR0 := Lib.hid hr
    have HL := Lib.hid (show (if chkC s rows = 0 then cntC s rows else []) = [] by rw [if_neg h0])
    have hb : (chkC s rows != 0) = true := by simpa using h0
    clear hr h0
    generalize hx : chkC s rows = x at *
    have HX := Lib.hid hx
    go_enter Tryz.func17, Tryz.ntmps17
    go_wp2_with (go_at_call 25; ((with_reducible refine (ccheck_any s A m c rows _ (HR0.out.ext (by repeat (first | exact Ext.refl _ | assumption | refine Ext.alloc ?_ _ | refine Ext.drew ?_ | refine Ext.drewN ?_ _ | refine Ext.trans ?_ (by assumption))))).mono ?_); rintro e w1 ⟨rfl, hq1⟩; rw [HX.out]))
    go_ret2
    exact CntQ.mk none 0 0 HX.out (by rw [HX.out]; exact HL.out) rfl (by repeat (first | exact Ext.refl _ | assumption | refine Ext.alloc ?_ _ | refine Ext.drew ?_ | refine Ext.drewN ?_ _ | refine Ext.trans ?_ (by assumption))) (Ints.none_ _ _) (fun b off e => by cases e) (Nat.le_refl _)
theorem ccounts_any (s : Int) (A : Option Addr) (m c : Nat) (rows : List Ro) (w : World) (hr : Rws w (fun _ => True) A m rows) :
    Calls Tryz.prog 17 #[.agg #[.int .i64 s, .slice A m c]] w (CntR s rows w) := (ccounts_q s A m c rows w hr).mono fun _ _ h => h.r
end Go.Proofs.YtjjhoonkooihjaaGreatDoor
