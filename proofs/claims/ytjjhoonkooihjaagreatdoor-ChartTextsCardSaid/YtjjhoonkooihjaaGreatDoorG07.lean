/- Text of stitches. -/
import Derived.Test.YtjjhoonkooihjaaGreatDoorG06
import Derived.Test.YtjjhoonkooihjaaGreatDoorProg
import Derived.Test.YtjjhoonkooihjaaGreatDoorG00
import Derived.Shelf.Strings.BuilderK
import Derived.Test.YtjjhoonkooihjaaGreatDoorG04
import Derived.Test.YtjjhoonkooihjaaGreatDoorG05
namespace Go.Proofs.YtjjhoonkooihjaaGreatDoor
set_option maxRecDepth 100000
open Go.RowKit
/-- what Text returns -/
def textG (l : List St) : List UInt8 := if allE l = 0 then textL l else []
set_option maxHeartbeats 2000000 in
theorem stext_any (n c : Nat) (A : Option Addr) (l : List St) (w : World) (hl : Vec shSt w A n l) (hn : n ≤ maxLen) (hby : Bytes l) (hg : Glob w) :
    Calls Tryz.prog 31 #[.slice A n c] w fun e w' => e = .returned (.tuple #[.string ⟨(textG l).toArray⟩, .int .i64 (allE l)]) ∧ Ext w w' := by
  have HX := Lib.hid hl
  have HG := Lib.hid hg
  have HS := Lib.hid (sall_any n c A l w hl hn hby)
  by_cases h0 : allE l = 0
  · obtain ⟨h1, h2, -, -⟩ := allE_e h0
    have hs := text_short h0
    have HA := Lib.hid h0
    have h3 : n ≤ 200 := by rw [← hl.1]; exact h1
    have HT := Lib.hid (fun (w' : World) (hb : Ext w w') => text_any n c A l w' (hl.ext hb) h3 h2 (hg.ext hb))
    have HTG := Lib.hid (show textG l = textL l by rw [textG, if_pos h0])
    rw [textG, if_pos h0]
    clear hl hg hby h0 h1 h2
    generalize textL l = T at *
    have hs2 : ¬ ((3000 : Int) < (T.length : Int)) := by omega
    go_enter Tryz.func31, Tryz.ntmps31
    go_wp2_with (first
      | (go_at_call 46; ((with_reducible refine HS.out.mono ?_); rintro e w1 ⟨rfl, hq1⟩; rw [HA.out]))
      | (go_at_call 54; ((with_reducible refine (HT.out _ (by repeat (first | exact Ext.refl _ | assumption | refine Ext.alloc ?_ _ | refine Ext.drew ?_ | refine Ext.drewN ?_ _ | refine Ext.trans ?_ (by assumption)))).mono ?_); rintro e w2 ⟨rfl, hq2⟩)))
    go_ret2
    exact ⟨by rw [HA.out]; rfl, by repeat (first | exact Ext.refl _ | assumption | refine Ext.alloc ?_ _ | refine Ext.drew ?_ | refine Ext.drewN ?_ _ | refine Ext.trans ?_ (by assumption))⟩
  · rw [textG, if_neg h0]
    obtain ⟨x, hx⟩ : ∃ x, allE l = x := ⟨_, rfl⟩
    rw [hx] at h0
    have HA := Lib.hid hx
    have hb : (x != 0) = true := by simpa using h0
    clear hl hg hby h0 hx
    go_enter Tryz.func31, Tryz.ntmps31
    go_wp2_with (first
      | (go_at_call 46; ((with_reducible refine HS.out.mono ?_); rintro e w1 ⟨rfl, hq1⟩; rw [HA.out])))
    go_ret2
    exact ⟨by rw [HA.out]; rfl, by repeat (first | exact Ext.refl _ | assumption | refine Ext.alloc ?_ _ | refine Ext.drew ?_ | refine Ext.drewN ?_ _ | refine Ext.trans ?_ (by assumption))⟩
end Go.Proofs.YtjjhoonkooihjaaGreatDoor
/- strings.Builder: WriteString, laid by hand (the kit's tool passes over it: no body of the closure names the types string and interface). -/
namespace Go.Proofs.YtjjhoonkooihjaaGreatDoor
set_option maxRecDepth 100000
set_option maxRecDepth 100000
open Go.RowKit Go.Shelf
def bldRen : Go.Shelf.Ren := ⟨fun | 166 => 29 | 240 => 52 | 276 => 74 | n => n, fun | 0 => 0 | 3 => 3 | 4 => 4 | 5 => 5 | 9 => 9 | 20 => 20 | 37 => 62 | 70 => 61 | 72 => 64 | 75 => 66 | 80 => 72 | 164 => 121 | n => n, fun | n => n⟩
theorem bldLays : Lays.n166 Tryz.prog bldRen where
  mixed := by kernel_rfl
  f166 := Tryz.func29.trans (congrArg some (by kernel_rfl))
  f240 := Tryz.func52.trans (congrArg some (by kernel_rfl))
  f276 := Tryz.func74.trans (congrArg some (by kernel_rfl))
  t0 := Tryz.underlying0
  a0 := Tryz.isAgg0
  z0 := Tryz.sizeOf0
  v0 := Tryz.zeroValue0
  t3 := Tryz.underlying3
  a3 := Tryz.isAgg3
  z3 := Tryz.sizeOf3
  v3 := Tryz.zeroValue3
  t4 := Tryz.underlying4
  a4 := Tryz.isAgg4
  z4 := Tryz.sizeOf4
  v4 := Tryz.zeroValue4
  t9 := Tryz.underlying9
  a9 := Tryz.isAgg9
  z9 := Tryz.sizeOf9
  v9 := Tryz.zeroValue9
  t20 := Tryz.underlying20
  a20 := Tryz.isAgg20
  z20 := Tryz.sizeOf20
  v20 := Tryz.zeroValue20
  t37 := Tryz.underlying62
  a37 := Tryz.isAgg62
  z37 := Tryz.sizeOf62
  v37 := Tryz.zeroValue62
  t70 := Tryz.underlying61
  a70 := Tryz.isAgg61
  z70 := Tryz.sizeOf61
  v70 := Tryz.zeroValue61
  t72 := Tryz.underlying64
  a72 := Tryz.isAgg64
  z72 := Tryz.sizeOf64
  v72 := Tryz.zeroValue64
  t75 := Tryz.underlying66
  a75 := Tryz.isAgg66
  z75 := Tryz.sizeOf66
  v75 := Tryz.zeroValue66
  t164 := Tryz.underlying121
  a164 := Tryz.isAgg121
  z164 := Tryz.sizeOf121
  v164 := Tryz.zeroValue121
theorem bldX : Builder.Extra Tryz.prog bldRen where
  sizeBuilder := by kernel_rfl
  liesBuilder := by kernel_rfl
  t5 := Tryz.underlying5
  a5 := Tryz.isAgg5
  z5 := Tryz.sizeOf5
  v5 := Tryz.zeroValue5
  infoByte := by kernel_rfl
  cellsByte := by kernel_rfl
  sizeByte := by kernel_rfl
  neB5 := by decide
theorem bld_write (B b : Nat) (l x : List UInt8) (w : World) (h : Lib.IsBuilderF 64 5 B b (Lib.byteCells l) w) (hlen : l.length + x.length ≤ 1000000000) (hBw : B ≤ w.heap.size) :
    Calls Tryz.prog 29 #[.pointer (some ⟨b, 0, none⟩), .string ⟨x.toArray⟩] w fun e w' => e = .returned (.tuple #[.int .i64 x.length, .nilIface]) ∧ Lib.IsBuilderF 64 5 B b (Lib.byteCells (l ++ x)) w' ∧ Below B w w' := by
  have h1 := Any.Builder_WriteString_k bldLays bldX B b (Lib.byteCells l) ⟨x.toArray⟩ w h (by have e1 : (Lib.byteCells l).length = l.length := by simp [Lib.byteCells]
                                                                                              have e2 : (⟨x.toArray⟩ : ByteArray).size = x.length := by simp [ByteArray.size]
                                                                                              omega) hBw
  refine h1.mono ?_
  rintro e w' ⟨rfl, h2, h3, -⟩
  refine ⟨by simp [ByteArray.size], .inr ?_, h3⟩
  have e : Lib.byteCells (l ++ x) = Lib.byteCells l ++ Lib.strCells ⟨x.toArray⟩ := by simp [Lib.byteCells, Lib.strCells]
  rw [e]
  exact h2
/-- a builder lies as it lay where the world has only grown -/
theorem bld_ext {T e : TypeId} {B b : Nat} {bs : List Value} {w w' : World} (h : Lib.IsBuilderF T e B b bs w) (hb : Ext w w') : Lib.IsBuilderF T e B b bs w' := by
  have key : ∀ (k : Nat) (o : Obj), w.heap[k]? = some o → w'.heap[k]? = some o := fun k o hk => by
    rw [hb.block k (Array.getElem?_eq_some_iff.1 hk).1]
    exact hk
  have at_ : ∀ p, Lib.BuilderAtF T e B b p bs w → Lib.BuilderAtF T e B b p bs w' := fun p ⟨hB, v, hbk, hown, hne⟩ =>
    ⟨hB, v, key _ _ hbk, ⟨hown.1, hown.2.imp id fun ⟨g, cap, cur, fz, a, c, d, r⟩ => ⟨g, cap, cur, fz, a, c, key _ _ d, r⟩⟩, hne⟩
  exact h.elim (fun x => .inl (at_ _ x)) (fun x => .inr (at_ _ x))
/-- a builder just declared holds nothing -/
theorem bld_new (w : World) (T e : TypeId) (B : Nat) (hB : B ≤ w.heap.size) : Lib.IsBuilderF T e B w.heap.size (Lib.byteCells []) (w.alloc (.cells #[.pointer none, .slice none 0 0] T)) :=
  .inl ⟨hB, .slice none 0 0, heap_alloc_new w _, ⟨by simp [Lib.byteCells], .inl ⟨rfl, rfl⟩⟩, by simp [Value.ownBlock]⟩
end Go.Proofs.YtjjhoonkooihjaaGreatDoor
/- Text of a chart. -/
namespace Go.Proofs.YtjjhoonkooihjaaGreatDoor
set_option maxRecDepth 100000
set_option maxRecDepth 100000
open Go.RowKit
/-- what Text of a chart returns -/
def ctextE (s : Int) (l : List Ro) : Int := if chkC s l ≠ 0 then chkC s l else if 20000 < (chartL s l).length then 4 else 0
def ctextV (s : Int) (l : List Ro) : List UInt8 := if ctextE s l = 0 then chartL s l else []
theorem rowsL_take {l : List Ro} {k : Nat} (hk : k < l.length) : rowsL (l.take (k + 1)) = rowsL (l.take k) ++ (rowL (l.getD k ro0) ++ [10]) := by
  rw [takeRo hk]
  simp [rowsL]
theorem rowL_len {r : Ro} (h : allE r.cells = 0) : (rowL r).length ≤ 1206 := by
  have h1 := text_short h
  unfold rowL
  have h2 : (sideT r.back).length ≤ 5 := by cases r.back <;> decide
  rw [List.length_append]
  split
  · simp; omega
  · simp; omega
theorem rowsL_bd {l : List Ro} (h : ∀ r ∈ l, allE r.cells = 0) : (rowsL l).length ≤ 1207 * l.length := by
  induction l with
  | nil => simp [rowsL]
  | cons r l ih =>
    have e : rowsL (r :: l) = (rowL r ++ [10]) ++ rowsL l := by simp [rowsL]
    have h1 := rowL_len (h r (by simp))
    have h2 := ih (fun x hx => h x (by simp [hx]))
    rw [e]
    simp only [List.length_append, List.length_cons, List.length_nil]
    omega
theorem ctext_no (s x : Int) (A : Option Addr) (m c : Nat) (rows : List Ro) (w : World) (hr : Rws w (fun _ => True) A m rows) (hx : chkC s rows = x) (h0 : x ≠ 0) :
    Calls Tryz.prog 10 #[.agg #[.int .i64 s, .slice A m c]] w fun e w' => e = .returned (.tuple #[.string ⟨([] : List UInt8).toArray⟩, .int .i64 x]) ∧ Ext w w' := by
  have HR := Lib.hid hr
  have HX := Lib.hid hx
  have hb0 : Ext w (w.alloc (.cells #[.int .i64 s, .slice A m c] 24)) := (Ext.refl _).alloc _
  have hne : (x != 0) = true := by simpa using h0
  clear hr hx h0
  go_enter Tryz.func10, Tryz.ntmps10
  go_wp2_with (go_at_call 25; go_loud ((with_reducible refine (ccheck_any s A m c rows _ (HR.out.ext (hb0.trans (by repeat (first | exact Ext.refl _ | refine Ext.drew ?_ | refine Ext.drewN ?_ _ | refine Ext.alloc ?_ _))))).mono ?_); rintro e w1 ⟨rfl, hq1⟩; rw [HX.out]))
  go_ret2
  exact ⟨rfl, hb0.trans (Ext.trans (by repeat (first | exact Ext.refl _ | refine Ext.drew ?_ | refine Ext.drewN ?_ _ | refine Ext.alloc ?_ _)) hq1)⟩
set_option maxHeartbeats 8000000 in
theorem ctext_main (s : Int) (A : Option Addr) (m c : Nat) (rows : List Ro) (w : World) (hr : Rws w (fun _ => True) A m rows) (hg : Glob w) (h0 : chkC s rows = 0) (V : List UInt8) (E : Int) (hV : V = ctextV s rows) (hE : E = ctextE s rows) :
    Calls Tryz.prog 10 #[.agg #[.int .i64 s, .slice A m c]] w fun e w' => e = .returned (.tuple #[.string ⟨V.toArray⟩, .int .i64 E]) ∧ Ext w w' := by
  have HR := Lib.hid hr
  have HG := Lib.hid hg
  have HC := Lib.hid h0
  obtain ⟨hl100, hs0, hs1, hall⟩ := chkC_facts h0
  have HAL := Lib.hid hall
  have hml : rows.length = m := hr.len
  have hbd := rowsL_bd hall
  have HBD := Lib.hid (fun (k : Nat) => rowsL_bd (l := rows.take k) (fun x hx => hall x (List.mem_of_mem_take hx)))
  have hb0 : Ext w (w.alloc (.cells #[.int .i64 s, .slice A m c] 24)) := (Ext.refl _).alloc _
  have HIT := Lib.hid (fun w' hg' => itoa_any s hs0 (by omega) w' hg')
  have hdl := dec_len s.toNat
  obtain ⟨D, hD⟩ : ∃ D, decD s.toNat = D := ⟨_, rfl⟩
  rw [hD] at HIT hdl
  obtain ⟨H1, hH1⟩ : ∃ H1, wStart ++ D = H1 := ⟨_, rfl⟩
  obtain ⟨H, hH⟩ : ∃ H, H1 ++ [10] = H := ⟨_, rfl⟩
  have hcat1 : (⟨#[115, 116, 97, 114, 116, 32]⟩ ++ ⟨D.toArray⟩ : ByteArray) = ⟨H1.toArray⟩ := by rw [← hH1]; exact str_app wStart D
  have hcat2 : (⟨H1.toArray⟩ ++ ⟨#[10]⟩ : ByteArray) = ⟨H.toArray⟩ := by rw [← hH]; exact str_app H1 [10]
  have hl1 : H1.length ≤ 26 := by rw [← hH1, List.length_append, show wStart.length = 6 from rfl]; omega
  have hl2 : H.length ≤ 27 := by rw [← hH, List.length_append, List.length_singleton]; omega
  have HCL := Lib.hid (show chartL s rows = H ++ rowsL rows by rw [chartL, ← hH, ← hH1, ← hD])
  have hm100 : m ≤ 100 := by omega
  have HV := Lib.hid hV
  have HE := Lib.hid hE
  have HML := Lib.hid hml
  clear hr hg h0 hall hD hH1 hH hV hE hbd hl100
  go_enter Tryz.func10, Tryz.ntmps10
  go_wp2_with (first
    | (go_at_call 25; go_loud ((with_reducible refine (ccheck_any s A m c rows _ (HR.out.ext (hb0.trans (by repeat (first | exact Ext.refl _ | refine Ext.drew ?_ | refine Ext.drewN ?_ _ | refine Ext.alloc ?_ _))))).mono ?_); rintro e w1 ⟨rfl, hq1⟩; rw [HC.out]; have hb1 : Ext (w.alloc (.cells #[.int .i64 s, .slice A m c] 24)) w1 := hq1; obtain ⟨hc1, hf1, hz1⟩ := hb1.facts))
    | (go_at_call 30; go_loud ((with_reducible refine (HIT.out _ (HG.out.ext (hb0.trans (hb1.trans (by repeat (first | exact Ext.refl _ | refine Ext.drew ?_ | refine Ext.drewN ?_ _ | refine Ext.alloc ?_ _)))))).mono ?_); rintro e w2 ⟨rfl, hq2⟩; have hb2 : Ext (w.alloc (.cells #[.int .i64 s, .slice A m c] 24)) w2 := hb1.trans (Ext.trans (by repeat (first | exact Ext.refl _ | refine Ext.drew ?_ | refine Ext.drewN ?_ _ | refine Ext.alloc ?_ _)) hq2); obtain ⟨hc2, hf2, hz2⟩ := hb2.facts))
    | (go_at_call 29; go_loud ((refine (bld_write (w.alloc (.cells #[.int .i64 s, .slice A m c] 24)).heap.size w1.heap.size [] H w2 (bld_ext (bld_new w1 _ 5 _ (Below.size hb1)) hq2) (by simp only [List.length_nil]; omega) (Below.size hb2)).mono ?_); rintro e w3 ⟨rfl, hbl, hq3⟩; have hb3 : Ext (w.alloc (.cells #[.int .i64 s, .slice A m c] 24)) w3 := Below.trans hb2 hq3; obtain ⟨hc3, hf3, hz3⟩ := hb3.facts)))
  have HB3 := Lib.hid hb3
  have HBL := Lib.hid hbl
  clear hc1 hf1 hz1 hc2 hf2 hz2 hc3 hf3 hz3 hbl hb3 hq3 hcat1 hcat2
  go_loopw [25] (fun i wr => ∃ k : Nat, i = .int .i64 k ∧ k ≤ m ∧ Hid (Lib.IsBuilderF 64 5 (w.alloc (.cells #[.int .i64 s, .slice A m c] 24)).heap.size w1.heap.size (Lib.byteCells (H ++ rowsL (rows.take k))) wr) ∧ Hid (Ext (w.alloc (.cells #[.int .i64 s, .slice A m c] 24)) wr)) (fun i _ => m - (intOf i).toNat)
  case atStart => exact ⟨0, rfl, by omega, Lib.hid (by have h9 := HBL.out; simpa [rowsL] using h9), HB3⟩
  case round =>
    clear HBL HB3
    obtain ⟨k, rfl, hk, HBL, HE3⟩ := hrel
    have HEW := Lib.hid (hb0.trans HE3.out)
    by_cases hlt : k < m
    · obtain ⟨b9, off9, A9, n9, c9, rfl, hlt9, -, d0, d1, hv9, hn9, hby9, -⟩ := (HR.out.ext HEW.out).at_ hlt
      have hz := World.block_lt_of_cell? wr _ d0
      have hml := HML.out
      have hok := HAL.out (rows.getD k ro0) (by rw [List.getD_eq_getElem?_getD, List.getElem?_eq_getElem (by omega)]; exact List.getElem_mem _)
      have hsn := rowsL_take (l := rows) (k := k) (by omega)
      have hbk := HBD.out k
      rw [List.length_take] at hbk
      generalize rows.getD k ro0 = r at *
      obtain ⟨rb, cs⟩ := r
      simp only at d0 d1 hv9 hby9 hok
      have HSN := Lib.hid hsn
      have hts := text_short hok
      have HST := Lib.hid (fun (w' : World) (hb : Ext wr w') => (show Calls Tryz.prog 31 #[.slice A9 n9 c9] w' fun e w'' => e = .returned (.tuple #[.string ⟨(textL cs).toArray⟩, .int .i64 0]) ∧ Ext w' w'' from by
        have h := stext_any n9 c9 A9 cs w' (hv9.ext hb) hn9 hby9 (HG.out.ext (HEW.out.trans hb))
        rw [textG, if_pos hok, hok] at h
        exact h))
      obtain ⟨T, hTT⟩ : ∃ T, textL cs = T := ⟨_, rfl⟩
      rw [hTT] at hts HST
      have q5 : (k : Int) < (m : Int) := by omega
      clear hsn hv9 hby9 hn9 hok hml
      cases rb
      · by_cases hT0 : T = []
        · obtain ⟨S2, hS2⟩ : ∃ S2, [102, 114, 111, 110, 116] ++ T = S2 := ⟨_, rfl⟩
          obtain ⟨S3, hS3⟩ : ∃ S3, S2 ++ [10] = S3 := ⟨_, rfl⟩
          have hcs : (⟨#[102, 114, 111, 110, 116]⟩ ++ ⟨T.toArray⟩ : ByteArray) = ⟨S2.toArray⟩ := by rw [← hS2]; exact str_app [102, 114, 111, 110, 116] T
          have hq9 : (T == []) = true := by rw [hT0]; rfl
          have hcs3 : (⟨S2.toArray⟩ ++ ⟨#[10]⟩ : ByteArray) = ⟨S3.toArray⟩ := by rw [← hS3]; exact str_app S2 [10]
          have hsl2 : S2.length ≤ 1210 := by rw [← hS2, List.length_append]; exact Nat.le_trans (Nat.add_le_add_left hts _) (by decide)
          have hsl3 : S3.length ≤ 1211 := by rw [← hS3, List.length_append, List.length_singleton]; omega
          have HL3 := Lib.hid (show rowL ⟨false, cs⟩ ++ [10] = S3 by rw [← hS3, ← hS2, rowL, hTT, if_pos hT0, hT0]; simp [sideT])
          clear hS2 hS3 hT0 hTT
          go_wp2_with (first
            | (go_at_call 31; go_loud ((with_reducible refine (HST.out _ (by repeat (first | exact Ext.refl _ | refine Ext.drew ?_ | refine Ext.drewN ?_ _ | refine Ext.alloc ?_ _))).mono ?_); rintro e w4 ⟨rfl, hq4⟩; obtain ⟨hc4, hf4, hz4⟩ := hq4.facts; have HQ4 := Lib.hid hq4; have HB4 := Lib.hid (HE3.out.trans (Ext.trans (by repeat (first | exact Ext.refl _ | refine Ext.drew ?_ | refine Ext.drewN ?_ _ | refine Ext.alloc ?_ _)) hq4))))
            | (go_at_call 29; go_loud ((refine (bld_write (w.alloc (.cells #[.int .i64 s, .slice (some ⟨b9, off9, none⟩) m c] 24)).heap.size w1.heap.size (H ++ rowsL (rows.take k)) S3 w4 (bld_ext (bld_ext HBL.out ((Ext.refl _).alloc _)) HQ4.out) (by rw [List.length_append]; omega) (Below.size HB4.out)).mono ?_); rintro e w5 ⟨rfl, hbl5, hq5⟩; have HB5 := Lib.hid (show Ext (w.alloc (.cells #[.int .i64 s, .slice (some ⟨b9, off9, none⟩) m c] 24)) w5 from Below.trans HB4.out hq5); have HBL5 := Lib.hid hbl5)))
          go_roundw
          case rel => exact ⟨k + 1, by go_num, by omega, Lib.hid (by have h9 := HBL5.out; rw [List.append_assoc, ← HL3.out] at h9; rw [HSN.out]; exact h9), HB5⟩
          case measure => simp [intOf] <;> omega
        · obtain ⟨S1, hS1⟩ : ∃ S1, ([102, 114, 111, 110, 116] : List UInt8) ++ [32] = S1 := ⟨_, rfl⟩
          obtain ⟨S2, hS2⟩ : ∃ S2, S1 ++ T = S2 := ⟨_, rfl⟩
          obtain ⟨S3, hS3⟩ : ∃ S3, S2 ++ [10] = S3 := ⟨_, rfl⟩
          have hcs1 : (⟨#[102, 114, 111, 110, 116]⟩ ++ ⟨#[32]⟩ : ByteArray) = ⟨S1.toArray⟩ := by rw [← hS1]; exact str_app [102, 114, 111, 110, 116] [32]
          have hcs : (⟨S1.toArray⟩ ++ ⟨T.toArray⟩ : ByteArray) = ⟨S2.toArray⟩ := by rw [← hS2]; exact str_app S1 T
          have hq9 : (T == []) = false := by simpa using hT0
          have hsl1 : S1.length ≤ 6 := by rw [← hS1]; simp
          have hcs3 : (⟨S2.toArray⟩ ++ ⟨#[10]⟩ : ByteArray) = ⟨S3.toArray⟩ := by rw [← hS3]; exact str_app S2 [10]
          have hsl2 : S2.length ≤ 1210 := by rw [← hS2, List.length_append]; omega
          have hsl3 : S3.length ≤ 1211 := by rw [← hS3, List.length_append, List.length_singleton]; omega
          have HL3 := Lib.hid (show rowL ⟨false, cs⟩ ++ [10] = S3 by rw [← hS3, ← hS2, ← hS1, rowL, hTT, if_neg hT0]; simp [sideT])
          clear hS2 hS3 hT0 hTT hS1
          go_wp2_with (first
            | (go_at_call 31; go_loud ((with_reducible refine (HST.out _ (by repeat (first | exact Ext.refl _ | refine Ext.drew ?_ | refine Ext.drewN ?_ _ | refine Ext.alloc ?_ _))).mono ?_); rintro e w4 ⟨rfl, hq4⟩; obtain ⟨hc4, hf4, hz4⟩ := hq4.facts; have HQ4 := Lib.hid hq4; have HB4 := Lib.hid (HE3.out.trans (Ext.trans (by repeat (first | exact Ext.refl _ | refine Ext.drew ?_ | refine Ext.drewN ?_ _ | refine Ext.alloc ?_ _)) hq4))))
            | (go_at_call 29; go_loud ((refine (bld_write (w.alloc (.cells #[.int .i64 s, .slice (some ⟨b9, off9, none⟩) m c] 24)).heap.size w1.heap.size (H ++ rowsL (rows.take k)) S3 w4 (bld_ext (bld_ext HBL.out ((Ext.refl _).alloc _)) HQ4.out) (by rw [List.length_append]; omega) (Below.size HB4.out)).mono ?_); rintro e w5 ⟨rfl, hbl5, hq5⟩; have HB5 := Lib.hid (show Ext (w.alloc (.cells #[.int .i64 s, .slice (some ⟨b9, off9, none⟩) m c] 24)) w5 from Below.trans HB4.out hq5); have HBL5 := Lib.hid hbl5)))
          go_roundw
          case rel => exact ⟨k + 1, by go_num, by omega, Lib.hid (by have h9 := HBL5.out; rw [List.append_assoc, ← HL3.out] at h9; rw [HSN.out]; exact h9), HB5⟩
          case measure => simp [intOf] <;> omega
      · by_cases hT0 : T = []
        · obtain ⟨S2, hS2⟩ : ∃ S2, [98, 97, 99, 107] ++ T = S2 := ⟨_, rfl⟩
          obtain ⟨S3, hS3⟩ : ∃ S3, S2 ++ [10] = S3 := ⟨_, rfl⟩
          have hcs : (⟨#[98, 97, 99, 107]⟩ ++ ⟨T.toArray⟩ : ByteArray) = ⟨S2.toArray⟩ := by rw [← hS2]; exact str_app [98, 97, 99, 107] T
          have hq9 : (T == []) = true := by rw [hT0]; rfl
          have hcs3 : (⟨S2.toArray⟩ ++ ⟨#[10]⟩ : ByteArray) = ⟨S3.toArray⟩ := by rw [← hS3]; exact str_app S2 [10]
          have hsl2 : S2.length ≤ 1210 := by rw [← hS2, List.length_append]; exact Nat.le_trans (Nat.add_le_add_left hts _) (by decide)
          have hsl3 : S3.length ≤ 1211 := by rw [← hS3, List.length_append, List.length_singleton]; omega
          have HL3 := Lib.hid (show rowL ⟨true, cs⟩ ++ [10] = S3 by rw [← hS3, ← hS2, rowL, hTT, if_pos hT0, hT0]; simp [sideT])
          clear hS2 hS3 hT0 hTT
          go_wp2_with (first
            | (go_at_call 31; go_loud ((with_reducible refine (HST.out _ (by repeat (first | exact Ext.refl _ | refine Ext.drew ?_ | refine Ext.drewN ?_ _ | refine Ext.alloc ?_ _))).mono ?_); rintro e w4 ⟨rfl, hq4⟩; obtain ⟨hc4, hf4, hz4⟩ := hq4.facts; have HQ4 := Lib.hid hq4; have HB4 := Lib.hid (HE3.out.trans (Ext.trans (by repeat (first | exact Ext.refl _ | refine Ext.drew ?_ | refine Ext.drewN ?_ _ | refine Ext.alloc ?_ _)) hq4))))
            | (go_at_call 29; go_loud ((refine (bld_write (w.alloc (.cells #[.int .i64 s, .slice (some ⟨b9, off9, none⟩) m c] 24)).heap.size w1.heap.size (H ++ rowsL (rows.take k)) S3 w4 (bld_ext (bld_ext HBL.out ((Ext.refl _).alloc _)) HQ4.out) (by rw [List.length_append]; omega) (Below.size HB4.out)).mono ?_); rintro e w5 ⟨rfl, hbl5, hq5⟩; have HB5 := Lib.hid (show Ext (w.alloc (.cells #[.int .i64 s, .slice (some ⟨b9, off9, none⟩) m c] 24)) w5 from Below.trans HB4.out hq5); have HBL5 := Lib.hid hbl5)))
          go_roundw
          case rel => exact ⟨k + 1, by go_num, by omega, Lib.hid (by have h9 := HBL5.out; rw [List.append_assoc, ← HL3.out] at h9; rw [HSN.out]; exact h9), HB5⟩
          case measure => simp [intOf] <;> omega
        · obtain ⟨S1, hS1⟩ : ∃ S1, ([98, 97, 99, 107] : List UInt8) ++ [32] = S1 := ⟨_, rfl⟩
          obtain ⟨S2, hS2⟩ : ∃ S2, S1 ++ T = S2 := ⟨_, rfl⟩
          obtain ⟨S3, hS3⟩ : ∃ S3, S2 ++ [10] = S3 := ⟨_, rfl⟩
          have hcs1 : (⟨#[98, 97, 99, 107]⟩ ++ ⟨#[32]⟩ : ByteArray) = ⟨S1.toArray⟩ := by rw [← hS1]; exact str_app [98, 97, 99, 107] [32]
          have hcs : (⟨S1.toArray⟩ ++ ⟨T.toArray⟩ : ByteArray) = ⟨S2.toArray⟩ := by rw [← hS2]; exact str_app S1 T
          have hq9 : (T == []) = false := by simpa using hT0
          have hsl1 : S1.length ≤ 6 := by rw [← hS1]; simp
          have hcs3 : (⟨S2.toArray⟩ ++ ⟨#[10]⟩ : ByteArray) = ⟨S3.toArray⟩ := by rw [← hS3]; exact str_app S2 [10]
          have hsl2 : S2.length ≤ 1210 := by rw [← hS2, List.length_append]; omega
          have hsl3 : S3.length ≤ 1211 := by rw [← hS3, List.length_append, List.length_singleton]; omega
          have HL3 := Lib.hid (show rowL ⟨true, cs⟩ ++ [10] = S3 by rw [← hS3, ← hS2, ← hS1, rowL, hTT, if_neg hT0]; simp [sideT])
          clear hS2 hS3 hT0 hTT hS1
          go_wp2_with (first
            | (go_at_call 31; go_loud ((with_reducible refine (HST.out _ (by repeat (first | exact Ext.refl _ | refine Ext.drew ?_ | refine Ext.drewN ?_ _ | refine Ext.alloc ?_ _))).mono ?_); rintro e w4 ⟨rfl, hq4⟩; obtain ⟨hc4, hf4, hz4⟩ := hq4.facts; have HQ4 := Lib.hid hq4; have HB4 := Lib.hid (HE3.out.trans (Ext.trans (by repeat (first | exact Ext.refl _ | refine Ext.drew ?_ | refine Ext.drewN ?_ _ | refine Ext.alloc ?_ _)) hq4))))
            | (go_at_call 29; go_loud ((refine (bld_write (w.alloc (.cells #[.int .i64 s, .slice (some ⟨b9, off9, none⟩) m c] 24)).heap.size w1.heap.size (H ++ rowsL (rows.take k)) S3 w4 (bld_ext (bld_ext HBL.out ((Ext.refl _).alloc _)) HQ4.out) (by rw [List.length_append]; omega) (Below.size HB4.out)).mono ?_); rintro e w5 ⟨rfl, hbl5, hq5⟩; have HB5 := Lib.hid (show Ext (w.alloc (.cells #[.int .i64 s, .slice (some ⟨b9, off9, none⟩) m c] 24)) w5 from Below.trans HB4.out hq5); have HBL5 := Lib.hid hbl5)))
          go_roundw
          case rel => exact ⟨k + 1, by go_num, by omega, Lib.hid (by have h9 := HBL5.out; rw [List.append_assoc, ← HL3.out] at h9; rw [HSN.out]; exact h9), HB5⟩
          case measure => simp [intOf] <;> omega
    · obtain rfl : k = m := by omega
      have HFB := Lib.hid (show Lib.IsBuilderF 64 5 (w.alloc (.cells #[.int .i64 s, .slice A k c] 24)).heap.size w1.heap.size (Lib.byteCells (chartL s rows)) wr from by
        have h9 := HBL.out
        rw [List.take_of_length_le (Nat.le_of_eq HML.out), ← HCL.out] at h9
        exact h9)
      have hce : ctextE s rows = if 20000 < (chartL s rows).length then 4 else 0 := by rw [ctextE, HC.out]; rfl
      have hcv : V = if ctextE s rows = 0 then chartL s rows else [] := HV.out
      have hee := HE.out
      rw [hce] at hcv hee
      have hlen : (Lib.byteCells (chartL s rows)).length = (chartL s rows).length := Lib.byteCells_length _
      clear hce HV HE HBL HCL HBD HAL
      have HSZ := Lib.hid (show (w.alloc (.cells #[.int .i64 s, .slice A k c] 24)).heap.size ≤ wr.heap.size from Below.size HE3.out)
      generalize chartL s rows = X at *
      by_cases hX : 20000 < X.length
      · have q1 : (20000 : Int) < (X.length : Int) := by omega
        rw [if_pos hX] at hcv hee
        rw [if_neg (by omega)] at hcv
        subst hcv
        subst hee
        clear hX
        go_wp2_with (go_at_call 32; go_loud ((with_reducible refine (Tryz.Builder_Len_f _ w1.heap.size _ _ HFB.out).mono ?_); rintro e w6 ⟨rfl, h9⟩; have h8 := h9.symm; clear h9; subst h8; rw [hlen]))
        go_ret2
        exact ⟨rfl, HEW.out⟩
      · have q1 : ¬ (20000 : Int) < (X.length : Int) := by omega
        rw [if_neg hX] at hcv hee
        rw [if_pos rfl] at hcv
        subst hcv
        subst hee
        clear hX
        go_wp2_with (first
          | (go_at_call 32; go_loud ((with_reducible refine (Tryz.Builder_Len_f _ w1.heap.size _ _ HFB.out).mono ?_); rintro e w6 ⟨rfl, h9⟩; have h8 := h9.symm; clear h9; subst h8; rw [hlen]))
          | (go_at_call 33; go_loud ((with_reducible refine (Tryz.Builder_String_any_k _ w1.heap.size V _ HFB.out HSZ.out).mono ?_); rintro e w7 ⟨rfl, -, hq7, -⟩; have HB7 := Lib.hid (show Ext (w.alloc (.cells #[.int .i64 s, .slice A k c] 24)) w7 from Below.trans HE3.out hq7))))
        go_ret2
        exact ⟨rfl, hb0.trans HB7.out⟩
theorem ctext_any (s : Int) (A : Option Addr) (m c : Nat) (rows : List Ro) (w : World) (hr : Rws w (fun _ => True) A m rows) (hg : Glob w) :
    Calls Tryz.prog 10 #[.agg #[.int .i64 s, .slice A m c]] w fun e w' => e = .returned (.tuple #[.string ⟨(ctextV s rows).toArray⟩, .int .i64 (ctextE s rows)]) ∧ Ext w w' := by
  by_cases h0 : chkC s rows = 0
  · exact ctext_main s A m c rows w hr hg h0 _ _ rfl rfl
  · have e1 : ctextE s rows = chkC s rows := by rw [ctextE, if_pos h0]
    have e2 : ctextV s rows = [] := by rw [ctextV, e1, if_neg h0]
    rw [e1, e2]
    exact ctext_no s _ A m c rows w hr rfl h0
end Go.Proofs.YtjjhoonkooihjaaGreatDoor
/- strings.Cut at a byte, and the next line of Parse of a chart. -/
namespace Go.Proofs.YtjjhoonkooihjaaGreatDoor
set_option maxRecDepth 100000
set_option maxRecDepth 100000
open Go.RowKit
theorem cut_lib (c : UInt8) : ∀ (l : List UInt8), Lib.cut l [c] = cutF c l := by
  intro l
  rw [Lib.cut]
  induction l with
  | nil => rfl
  | cons x l ih =>
    rw [idx_cons, cutF]
    by_cases hx : x = c
    · subst hx
      simp
    · have hcx : ¬ c = x := fun e => hx e.symm
      rw [if_neg hcx, if_neg hx]
      rw [← ih]
      rcases Lib.index_spec l [c] with ⟨hm, _⟩ | ⟨i, hm, _⟩
      · rw [hm]; rfl
      · rw [hm]
        have h1 : ((i : Int) == -1) = false := by rw [beq_eq_false_iff_ne]; omega
        have h2 : ¬ ((i : Int) + 1 < 0) := by omega
        simp [h1]
        omega
theorem cut_str_any (c : UInt8) (l : List UInt8) (hl : l.length ≤ 1000000) (w : World) (hg : Glob w) :
    Calls Tryz.prog 36 #[.string ⟨l.toArray⟩, .string ⟨#[c]⟩] w fun e w' => e = .returned (.tuple #[.string ⟨(cutF c l).1.toArray⟩, .string ⟨(cutF c l).2.1.toArray⟩, .bool (cutF c l).2.2]) ∧ Ext w w' := by
  obtain ⟨m, hm⟩ := hg.max
  refine (Tryz.strings_Cut ⟨l.toArray⟩ ⟨#[c]⟩ m w (by rw [str_size]; omega) hm).mono ?_
  rintro e w' ⟨rfl, n, rfl⟩
  refine ⟨?_, (Ext.refl _).drewN n⟩
  have h := cut_lib c l
  rw [show (⟨l.toArray⟩ : ByteArray).data.toList = l from str_data l, show (⟨#[c]⟩ : ByteArray).data.toList = [c] from rfl, h]
/-- the next line, and what is behind it into the cell -/
theorem next_any (g : Nat) (l : List UInt8) (hl : l.length ≤ 1000000) (w : World) (hg : Glob w) (hc : w.cell? ⟨g, 0, none⟩ = some (.string ⟨l.toArray⟩)) (hf : w.frozen? ⟨g, 0, none⟩ = false) :
    Calls Tryz.prog 35 #[.pointer (some ⟨g, 0, none⟩)] w fun e w' => e = .returned (.tuple #[.string ⟨(cutF 10 l).1.toArray⟩, .bool (cutF 10 l).2.2]) ∧ ∃ w2, Ext w w2 ∧ w' = w2.setCell ⟨g, 0, none⟩ (.string ⟨(cutF 10 l).2.1.toArray⟩) := by
  have HC := Lib.hid (cut_str_any 10 l hl w hg)
  generalize (cutF 10 l).1 = a at *
  generalize (cutF 10 l).2.1 = b at *
  generalize (cutF 10 l).2.2 = f at *
  have hlt := World.block_lt_of_cell? w _ hc
  simp only at hlt
  clear hg
  go_enter Tryz.func35, Tryz.ntmps35
  go_wp2_with (go_at_call 36; go_loud ((with_reducible refine HC.out.mono ?_); rintro e w1 ⟨rfl, hq1⟩; obtain ⟨hc1, hf1, hz1⟩ := hq1.facts; have g0 : w1.cell? ⟨g, 0, none⟩ = some (.string ⟨l.toArray⟩) := ((hc1 _ _ hlt).trans hc); have g1 : w1.frozen? ⟨g, 0, none⟩ = false := ((hf1 _ _ hlt).trans hf)))
  go_ret2
  exact ⟨rfl, w1, hq1, rfl⟩
theorem atoi_yes {l : List UInt8} {v : Int} (h : atoiO l = some v) (hl : l.length ≤ 1000000) (w : World) :
    Calls Tryz.prog 37 #[.string ⟨l.toArray⟩] w fun e w' => e = .returned (.tuple #[.int .i64 v, .nilIface]) ∧ Ext w w' := by
  have h1 : Lib.atoiAll l = .ok v := by
    unfold atoiO at h
    split at h
    · rename_i v' h2
      cases h
      exact h2
    · cases h
  refine (Tryz.strconv_Atoi_ok ⟨l.toArray⟩ (by rw [str_size]; omega) v (by rw [str_data]; exact h1) w).mono ?_
  rintro e w' ⟨rfl, h2⟩
  refine ⟨rfl, ?_⟩
  rcases h2 with rfl | ⟨t, rfl⟩
  · exact Ext.refl _
  · exact Lib.bytesWorld_below _ _ _
theorem atoi_no {l : List UInt8} (h : atoiO l = none) (hl : l.length ≤ 1000000) (w : World) (hg : Glob w) :
    Calls Tryz.prog 37 #[.string ⟨l.toArray⟩] w fun e w' => ∃ (v : Int) (te : TypeId) (p : Addr), e = .returned (.tuple #[.int .i64 v, .iface te (.pointer (some p))]) ∧ Ext w w' := by
  cases h1 : Lib.atoiAll l
  · unfold atoiO at h
    rw [h1] at h
    cases h
  · obtain ⟨tp, p, hv⟩ := hg.syn
    refine (Any.strconv_Atoi_syntax_var Tryz.laysC172 ⟨l.toArray⟩ (by rw [str_size]; omega) (by rw [str_data]; exact h1) tp p w hv).mono ?_
    rintro e w' ⟨N, rfl, _, _, hb⟩
    exact ⟨_, _, _, rfl, hb⟩
  · obtain ⟨tp, p, hv⟩ := hg.rng
    refine (Tryz.strconv_Atoi_range_var ⟨l.toArray⟩ (by rw [str_size]; omega) (by rw [str_data]; exact h1) tp p w hv).mono ?_
    rintro e w' ⟨N, rfl, _, _, hb⟩
    exact ⟨_, _, _, rfl, hb⟩
end Go.Proofs.YtjjhoonkooihjaaGreatDoor
/- number: what is read of the digits in front. -/
namespace Go.Proofs.YtjjhoonkooihjaaGreatDoor
set_option maxRecDepth 100000
open Go.RowKit
theorem numR_0 {l : List UInt8} (h : headD 4 l = 0) : numR l = (-1, l) := by rw [numR, if_pos h]
theorem numR_1 {l : List UInt8} (h : headD 4 l ≠ 0) : numR l = ((valD (l.take (headD 4 l)) : Int), l.drop (headD 4 l)) := by rw [numR, if_neg h]
set_option maxHeartbeats 2000000 in
theorem number_any (l : List UInt8) (hl : l.length ≤ 100000) (w : World) (hg : Glob w) :
    Calls Tryz.prog 88 #[.string ⟨l.toArray⟩] w fun e w' => e = .returned (.tuple #[.int .i64 (numR l).1, .string ⟨(numR l).2.toArray⟩]) ∧ Ext w w' := by
  have HG := Lib.hid hg
  obtain ⟨hd1, hd2, hd3⟩ := headD_le 4 l
  have HD := Lib.hid hd3
  have HP := Lib.hid (fun k => headD_step (k := 4) (l := l) (n := k))
  obtain ⟨N, hN⟩ : ∃ N, headD 4 l = N := ⟨_, rfl⟩
  have HN := Lib.hid hN
  rw [hN] at hd1 hd2 HD HP
  clear hg hd3 hN
  have hx0 := fun k => str_ext0 l k
  have hxD := str_extD l N l.length (Nat.le_refl _)
  go_enter Tryz.func88, Tryz.ntmps88
  go_wp2_with fail
  go_loopw [4] (fun i wr => ∃ (k : Nat), i = .int .i64 k ∧ k ≤ N ∧ Hid (Ext w wr)) (fun i _ => N - (intOf i).toNat)
  case atStart => exact ⟨0, rfl, Nat.zero_le _, Lib.hid (by repeat (first | exact Ext.refl _ | assumption | refine Ext.alloc ?_ _ | refine Ext.drew ?_ | refine Ext.drewN ?_ _ | refine Ext.trans ?_ (by assumption)))⟩
  case round =>
    obtain ⟨k, rfl, hk, HE⟩ := hrel
    have hstep := HP.out k hk
    by_cases hlt : k < N
    · obtain ⟨h1, h2, h3⟩ := hstep.1 hlt
      have h4 := dg_val h3
      have h5 := str_at l k
      clear hstep h3
      have q0 : (0 : Int) ≤ (k : Int) := by omega
      have q1 : (k : Int) < (l.length : Int) := by omega
      have q2 : (k : Int) < 4 := by omega
      generalize hc : l.getD k 0 = c at *
      have q3 : (48 : Int) ≤ (c.toNat : Int) := by omega
      have q4 : (c.toNat : Int) ≤ 57 := by omega
      clear hc
      go_wp2_with fail
      go_roundw
      case rel => exact ⟨k + 1, by go_num, by omega, Lib.hid (by have := HE.out; repeat (first | exact Ext.refl _ | assumption | refine Ext.alloc ?_ _ | refine Ext.drew ?_ | refine Ext.drewN ?_ _ | refine Ext.trans ?_ (by assumption)))⟩
      case measure => simp [intOf]; omega
    · obtain rfl : N = k := by omega
      have hno : ¬ (N < 4 ∧ N < l.length ∧ isDg (l.getD N 0) = true) := fun h => hlt (hstep.2 h)
      by_cases hN0 : N = 0
      · subst hN0
        have HR := Lib.hid (numR_0 HN.out)
        have hz : (⟨l.toArray⟩ : ByteArray).extract 0 0 = ⟨#[]⟩ := by rw [str_ext0]; rfl
        by_cases hl4 : 0 < 4
        · by_cases hll : 0 < l.length
          · have h5 := str_at l 0
            have q0 : (0 : Int) ≤ (0 : Int) := by omega
            have q1 : (0 : Int) < (l.length : Int) := by omega
            have q2 : (0 : Int) < 4 := by omega
            have hnd : ¬ isDg (l.getD 0 0) = true := fun h => hno ⟨hl4, hll, h⟩
            generalize hc : l.getD 0 0 = c at *
            have hnd2 : c.toNat < 48 ∨ 57 < c.toNat := by
              by_cases h6 : c.toNat < 48
              · exact .inl h6
              · right
                rcases Nat.lt_or_ge 57 c.toNat with h7 | h7
                · exact h7
                · exfalso
                  apply hnd
                  simp only [isDg, Bool.and_eq_true, decide_eq_true_eq, UInt8.le_iff_toNat_le]
                  exact ⟨by simpa using Nat.le_of_not_lt h6, by simpa using h7⟩
            clear hc hnd hno hstep
            rcases hnd2 with h6 | h6
            · have q3 : (c.toNat : Int) < 48 := by omega
              go_wp2_with (go_at_call 37; go_loud (((with_reducible refine (atoi_e_any _ (HG.out.ext (by have := HE.out; repeat (first | exact Ext.refl _ | assumption | refine Ext.alloc ?_ _ | refine Ext.drew ?_ | refine Ext.drewN ?_ _ | refine Ext.trans ?_ (by assumption))))).mono ?_); rintro e w1 ⟨⟨te, pe, rfl⟩, hq1⟩)))
              go_ret2
              exact ⟨by rw [HR.out]; rfl, by have := HE.out; repeat (first | exact Ext.refl _ | assumption | refine Ext.alloc ?_ _ | refine Ext.drew ?_ | refine Ext.drewN ?_ _ | refine Ext.trans ?_ (by assumption))⟩
            · have q3 : (57 : Int) < (c.toNat : Int) := by omega
              have q4 : (48 : Int) ≤ (c.toNat : Int) := by omega
              go_wp2_with (go_at_call 37; go_loud (((with_reducible refine (atoi_e_any _ (HG.out.ext (by have := HE.out; repeat (first | exact Ext.refl _ | assumption | refine Ext.alloc ?_ _ | refine Ext.drew ?_ | refine Ext.drewN ?_ _ | refine Ext.trans ?_ (by assumption))))).mono ?_); rintro e w1 ⟨⟨te, pe, rfl⟩, hq1⟩)))
              go_ret2
              exact ⟨by rw [HR.out]; rfl, by have := HE.out; repeat (first | exact Ext.refl _ | assumption | refine Ext.alloc ?_ _ | refine Ext.drew ?_ | refine Ext.drewN ?_ _ | refine Ext.trans ?_ (by assumption))⟩
          · have q1 : ¬ ((0 : Int) < (l.length : Int)) := by omega
            clear hstep hno
            go_wp2_with (go_at_call 37; go_loud (((with_reducible refine (atoi_e_any _ (HG.out.ext (by have := HE.out; repeat (first | exact Ext.refl _ | assumption | refine Ext.alloc ?_ _ | refine Ext.drew ?_ | refine Ext.drewN ?_ _ | refine Ext.trans ?_ (by assumption))))).mono ?_); rintro e w1 ⟨⟨te, pe, rfl⟩, hq1⟩)))
            go_ret2
            exact ⟨by rw [HR.out]; rfl, by have := HE.out; repeat (first | exact Ext.refl _ | assumption | refine Ext.alloc ?_ _ | refine Ext.drew ?_ | refine Ext.drewN ?_ _ | refine Ext.trans ?_ (by assumption))⟩
        · have q2 : ¬ ((0 : Int) < 4) := by omega
          by_cases hll : 0 < l.length
          · have q1 : (0 : Int) < (l.length : Int) := by omega
            clear hstep hno
            go_wp2_with (go_at_call 37; go_loud (((with_reducible refine (atoi_e_any _ (HG.out.ext (by have := HE.out; repeat (first | exact Ext.refl _ | assumption | refine Ext.alloc ?_ _ | refine Ext.drew ?_ | refine Ext.drewN ?_ _ | refine Ext.trans ?_ (by assumption))))).mono ?_); rintro e w1 ⟨⟨te, pe, rfl⟩, hq1⟩)))
            go_ret2
            exact ⟨by rw [HR.out]; rfl, by have := HE.out; repeat (first | exact Ext.refl _ | assumption | refine Ext.alloc ?_ _ | refine Ext.drew ?_ | refine Ext.drewN ?_ _ | refine Ext.trans ?_ (by assumption))⟩
          · have q1 : ¬ ((0 : Int) < (l.length : Int)) := by omega
            clear hstep hno
            go_wp2_with (go_at_call 37; go_loud (((with_reducible refine (atoi_e_any _ (HG.out.ext (by have := HE.out; repeat (first | exact Ext.refl _ | assumption | refine Ext.alloc ?_ _ | refine Ext.drew ?_ | refine Ext.drewN ?_ _ | refine Ext.trans ?_ (by assumption))))).mono ?_); rintro e w1 ⟨⟨te, pe, rfl⟩, hq1⟩)))
            go_ret2
            exact ⟨by rw [HR.out]; rfl, by have := HE.out; repeat (first | exact Ext.refl _ | assumption | refine Ext.alloc ?_ _ | refine Ext.drew ?_ | refine Ext.drewN ?_ _ | refine Ext.trans ?_ (by assumption))⟩

      · have HR := Lib.hid (numR_1 (l := l) (by rw [HN.out]; exact hN0))
        rw [HN.out] at HR
        have HAT := Lib.hid (fun w' => atoi_digits_any (l.take N) (by rw [List.length_take]; omega) HD.out (fun e => by have h9 := congrArg List.length e; rw [List.length_take, List.length_nil] at h9; omega) w')
        have hp : (0 : Int) < (N : Int) := by omega
        generalize valD (l.take N) = V at *
        generalize l.drop N = R at *
        by_cases hl4 : N < 4
        · by_cases hll : N < l.length
          · have h5 := str_at l N
            have q0 : (0 : Int) ≤ (N : Int) := by omega
            have q1 : (N : Int) < (l.length : Int) := by omega
            have q2 : (N : Int) < 4 := by omega
            have hnd : ¬ isDg (l.getD N 0) = true := fun h => hno ⟨hl4, hll, h⟩
            generalize hc : l.getD N 0 = c at *
            have hnd2 : c.toNat < 48 ∨ 57 < c.toNat := by
              by_cases h6 : c.toNat < 48
              · exact .inl h6
              · right
                rcases Nat.lt_or_ge 57 c.toNat with h7 | h7
                · exact h7
                · exfalso
                  apply hnd
                  simp only [isDg, Bool.and_eq_true, decide_eq_true_eq, UInt8.le_iff_toNat_le]
                  exact ⟨by simpa using Nat.le_of_not_lt h6, by simpa using h7⟩
            clear hc hnd hno hstep
            rcases hnd2 with h6 | h6
            · have q3 : (c.toNat : Int) < 48 := by omega
              go_wp2_with (go_at_call 37; go_loud (((with_reducible refine (HAT.out _).mono ?_); rintro e w1 ⟨rfl, hq1⟩)))
              go_wp2
              go_quiet (fail)
              go_wp2
              go_ret2
              exact ⟨by rw [HR.out]; rfl, by have := HE.out; repeat (first | exact Ext.refl _ | assumption | refine Ext.alloc ?_ _ | refine Ext.drew ?_ | refine Ext.drewN ?_ _ | refine Ext.trans ?_ (by assumption))⟩
            · have q3 : (57 : Int) < (c.toNat : Int) := by omega
              have q4 : (48 : Int) ≤ (c.toNat : Int) := by omega
              go_wp2_with (go_at_call 37; go_loud (((with_reducible refine (HAT.out _).mono ?_); rintro e w1 ⟨rfl, hq1⟩)))
              go_wp2
              go_quiet (fail)
              go_wp2
              go_ret2
              exact ⟨by rw [HR.out]; rfl, by have := HE.out; repeat (first | exact Ext.refl _ | assumption | refine Ext.alloc ?_ _ | refine Ext.drew ?_ | refine Ext.drewN ?_ _ | refine Ext.trans ?_ (by assumption))⟩
          · have q1 : ¬ ((N : Int) < (l.length : Int)) := by omega
            clear hstep hno
            go_wp2_with (go_at_call 37; go_loud (((with_reducible refine (HAT.out _).mono ?_); rintro e w1 ⟨rfl, hq1⟩)))
            go_wp2
            go_quiet (fail)
            go_wp2
            go_ret2
            exact ⟨by rw [HR.out]; rfl, by have := HE.out; repeat (first | exact Ext.refl _ | assumption | refine Ext.alloc ?_ _ | refine Ext.drew ?_ | refine Ext.drewN ?_ _ | refine Ext.trans ?_ (by assumption))⟩
        · have q2 : ¬ ((N : Int) < 4) := by omega
          by_cases hll : N < l.length
          · have q1 : (N : Int) < (l.length : Int) := by omega
            clear hstep hno
            go_wp2_with (go_at_call 37; go_loud (((with_reducible refine (HAT.out _).mono ?_); rintro e w1 ⟨rfl, hq1⟩)))
            go_wp2
            go_quiet (fail)
            go_wp2
            go_ret2
            exact ⟨by rw [HR.out]; rfl, by have := HE.out; repeat (first | exact Ext.refl _ | assumption | refine Ext.alloc ?_ _ | refine Ext.drew ?_ | refine Ext.drewN ?_ _ | refine Ext.trans ?_ (by assumption))⟩
          · have q1 : ¬ ((N : Int) < (l.length : Int)) := by omega
            clear hstep hno
            go_wp2_with (go_at_call 37; go_loud (((with_reducible refine (HAT.out _).mono ?_); rintro e w1 ⟨rfl, hq1⟩)))
            go_wp2
            go_quiet (fail)
            go_wp2
            go_ret2
            exact ⟨by rw [HR.out]; rfl, by have := HE.out; repeat (first | exact Ext.refl _ | assumption | refine Ext.alloc ?_ _ | refine Ext.drew ?_ | refine Ext.drewN ?_ _ | refine Ext.trans ?_ (by assumption))⟩

end Go.Proofs.YtjjhoonkooihjaaGreatDoor
