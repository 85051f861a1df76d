/- The library's functions that the stitches' texts call, in the words of this claim. -/
import Derived.Test.YtjjhoonkooihjaaGreatDoorG05
import Derived.Test.YtjjhoonkooihjaaGreatDoorG01
import Derived.Lib.AtoiBound
import Derived.Lib.AppendIntMem
import Derived.Lib.AtoiErrMem
import Derived.Test.YtjjhoonkooihjaaGreatDoorG02
import Derived.Test.YtjjhoonkooihjaaGreatDoorG00
import Derived.Test.YtjjhoonkooihjaaGreatDoorG03
namespace Go.Proofs.YtjjhoonkooihjaaGreatDoor
set_option maxRecDepth 100000
open Go.RowKit
/-- the value of a string with these bytes -/
abbrev strV (l : List UInt8) : Value := .string ⟨l.toArray⟩
theorem str_data (l : List UInt8) : (⟨l.toArray⟩ : ByteArray).data.toList = l := by simp
theorem str_size (l : List UInt8) : (⟨l.toArray⟩ : ByteArray).size = l.length := by simp [ByteArray.size]
theorem str_app (a b : List UInt8) : (⟨a.toArray⟩ ++ ⟨b.toArray⟩ : ByteArray) = ⟨(a ++ b).toArray⟩ := by
  apply ByteArray.ext
  simp
theorem str_ext0 (l : List UInt8) (k : Nat) : (⟨l.toArray⟩ : ByteArray).extract 0 k = ⟨(l.take k).toArray⟩ := by
  apply ByteArray.ext
  apply Array.toList_inj.1
  rw [Lib.extract_from_zero]
theorem str_extD (l : List UInt8) (k n : Nat) (h : l.length ≤ n) : (⟨l.toArray⟩ : ByteArray).extract k n = ⟨(l.drop k).toArray⟩ := by
  apply ByteArray.ext
  apply Array.toList_inj.1
  rw [Lib.extract_data]
  exact List.take_of_length_le (by simp; omega)
theorem str_at (l : List UInt8) (k : Nat) (h : k < (⟨l.toArray⟩ : ByteArray).size) : (⟨l.toArray⟩ : ByteArray)[k] = l.getD k 0 := by
  have h2 : k < l.length := by simpa [ByteArray.size] using h
  rw [List.getD_eq_getElem?_getD, List.getElem?_eq_getElem h2]
  rfl
theorem itoa_any (n : Int) (h0 : 0 ≤ n) (h1 : n ≤ 1000000000000) (w : World) (hg : Glob w) :
    Calls Tryz.prog 30 #[.int .i64 n] w fun e w' => e = .returned (.string ⟨(decD n.toNat).toArray⟩) ∧ Ext w w' := by
  refine (Tryz.strconv_Itoa n (by omega) (by omega) w hg.tab).mono ?_
  rintro e w' ⟨rfl, k, os, rfl⟩
  exact ⟨by rw [itoa_lib h0 h1], Lib.below_grow _ _ (Nat.le_refl _) _ _⟩
/-- Atoi of some digits, or of none -/
theorem atoi_digits_any (l : List UInt8) (hl : l.length ≤ 4) (h : l.all isDg = true) (h0 : l ≠ []) (w : World) :
    Calls Tryz.prog 37 #[.string ⟨l.toArray⟩] w fun e w' => e = .returned (.tuple #[.int .i64 (valD l : Int), .nilIface]) ∧ Ext w w' := by
  refine (Tryz.strconv_Atoi ⟨l.toArray⟩ (valD l : Int) (by rw [str_size]; omega) (by rw [str_data]; exact atoi_digits h h0) w).mono ?_
  rintro e w' ⟨rfl, t, rfl⟩
  exact ⟨rfl, Lib.bytesWorld_below _ _ _⟩
theorem atoi_none_any (w : World) (hg : Glob w) :
    Calls Tryz.prog 37 #[.string ⟨#[]⟩] w fun e w' => (∃ te p, e = .returned (.tuple #[.int .i64 0, .iface te (.pointer (some p))])) ∧ Ext w w' := by
  obtain ⟨tp, p, hv⟩ := hg.syn
  refine (Tryz.strconv_Atoi_err_var ⟨#[]⟩ (by simp [ByteArray.size]) rfl tp p w hv).mono ?_
  rintro e w' ⟨N, rfl, _, _, hb⟩
  exact ⟨⟨_, _, rfl⟩, hb⟩
theorem atoi_e_any (w : World) (hg : Glob w) :
    Calls Tryz.prog 37 #[.string ByteArray.empty] w fun e w' => (∃ te p, e = .returned (.tuple #[.int .i64 0, .iface te (.pointer (some p))])) ∧ Ext w w' := atoi_none_any w hg
/-- a string as one cell -/
def shStr : Shp (List UInt8) where
  size := 1
  cells x := [.string ⟨x.toArray⟩]
  pos := by omega
  len _ := rfl
  one x u h := by
    simp at h
    subst h
    rfl
theorem info_str : (Tryz.prog.info? 9).map (fun i => (i.zero, i.size, i.bytes)) = some (some (.string ⟨#[]⟩), 1, 16) := by kernel_rfl
theorem split_any (l : List UInt8) (c : UInt8) (hl : l.length ≤ 100000) (w : World) (hg : Glob w) :
    Calls Tryz.prog 62 #[.string ⟨l.toArray⟩, .string ⟨#[c]⟩] w fun e w' => ∃ g n, e = .returned (.slice (some ⟨g, 0, none⟩) n n) ∧ Ext w w' ∧ Vec shStr w' (some ⟨g, 0, none⟩) n (spl c l) := by
  obtain ⟨m, hm⟩ := hg.max
  refine (Tryz.strings_Split ⟨l.toArray⟩ ⟨#[c]⟩ m w (by rw [str_size]; omega) hm (by simp [ByteArray.size])).mono ?_
  rintro e w' ⟨rfl, rfl⟩
  have hs := split_spl c ⟨l.toArray⟩
  rw [str_data] at hs
  have hlen : (spl c l).length = Lib.countB ⟨l.toArray⟩ ⟨#[c]⟩ + 1 := by
    rw [spl_count c _ l (Nat.le_refl _), Lib.countB, str_data]
  refine ⟨w.heap.size, _, rfl, (Ext.refl _).alloc _, hlen, fun _ => ⟨w.heap.size, 0, rfl, by simp, fun k x hx i u hu => ?_⟩⟩
  have hi : i = 0 := by
    rcases i with _ | i
    · rfl
    · simp [shStr] at hu
  subst hi
  have hu2 : u = .string ⟨x.toArray⟩ := by simp [shStr] at hu; exact hu.symm
  subst hu2
  have h1 : (w.alloc (.cells ((Lib.splitB ⟨#[c]⟩ 0 (Lib.countB ⟨l.toArray⟩ ⟨#[c]⟩) ⟨l.toArray⟩).map Value.string).toArray 9)).heap[w.heap.size]? = some (.cells ((Lib.splitB ⟨#[c]⟩ 0 (Lib.countB ⟨l.toArray⟩ ⟨#[c]⟩) ⟨l.toArray⟩).map Value.string).toArray 9) := heap_alloc_new w _
  rw [cell_of_row _ w.heap.size _ _ 9 (0, 0) h1]
  rw [← hs, List.getElem?_map] at hx
  obtain ⟨y, hy, rfl⟩ := Option.map_eq_some_iff.1 hx
  simp [hy, shStr]
theorem flat_str : ∀ (ws : List (List UInt8)), ws.flatMap shStr.cells = ws.map (fun l => Value.string ⟨l.toArray⟩) := by
  intro ws
  induction ws with
  | nil => rfl
  | cons x ws ih => rw [List.flatMap_cons, ih]; rfl
/-- strings.Join of a list that the call has made -/
theorem join_any (B n c : Nat) (A : Option Addr) (ws : List (List UInt8)) (d : UInt8) (e : TypeId) (w : World) (hv : OwnV shStr w B e (.slice A n c) n ws) (hl : (joinB d ws).length ≤ 100000000) (hws : n ≤ 100000000) :
    Calls Tryz.prog 77 #[.slice A n c, .string ⟨#[d]⟩] w fun e w' => e = .returned (.string ⟨(joinB d ws).toArray⟩) ∧ Ext w w' := by
  have hn : ws.length = n := OwnV.len hv
  rcases hv.2 with ⟨h0, h1⟩ | ⟨g, cap, cur, h0, hB, hg, hnc, hcm, hsz, hcur⟩
  · cases h0
    obtain rfl : ws = [] := List.eq_nil_of_length_eq_zero hn
    refine (Tryz.strings_Join_none none 0 ⟨#[d]⟩ w).mono ?_
    rintro e w' ⟨rfl, rfl⟩
    exact ⟨rfl, Ext.refl _⟩
  · cases h0
    have hx : (ws.map (fun l => (⟨l.toArray⟩ : ByteArray))).map (·.data.toList) = ws := by
      rw [List.map_map]
      conv => rhs; rw [← List.map_id ws]
      apply List.map_congr_left
      intro l _
      simp
    have hj : Lib.join ((ws.map (fun l => (⟨l.toArray⟩ : ByteArray))).map (·.data.toList)) (⟨#[d]⟩ : ByteArray).data.toList = joinB d ws := by
      rw [hx]
      exact join_lib d ws
    have h9 := Tryz.strings_Join g 0 c (ws.map (fun l => (⟨l.toArray⟩ : ByteArray))) ⟨#[d]⟩ w (fun j x hjx => ?_) (Array.getElem?_eq_some_iff.1 hg).1 (by rw [List.length_map]; omega) (by rw [List.length_map]; omega) (by rw [hj]; omega)
    · rw [List.length_map, hn] at h9
      refine h9.mono ?_
      rintro e w' ⟨rfl, hb⟩
      exact ⟨by rw [hj], hb⟩
    · rw [List.getElem?_map] at hjx
      obtain ⟨l, hl1, rfl⟩ := Option.map_eq_some_iff.1 hjx
      rw [cell_of_row _ g _ _ e (0, 0) hg]
      have h8 : (ws.flatMap shStr.cells)[j]? = some (.string ⟨l.toArray⟩) := by
        rw [flat_str, List.getElem?_map, hl1]
        rfl
      rw [← hcur, List.getElem?_take] at h8
      split at h8
      · rw [Nat.zero_add]
        simpa using h8
      · cases h8
end Go.Proofs.YtjjhoonkooihjaaGreatDoor
/- The text of a stitch. -/
namespace Go.Proofs.YtjjhoonkooihjaaGreatDoor
set_option maxRecDepth 100000
open Go.RowKit
theorem form_1 (w : World) : Calls Tryz.prog 51 #[.int .u8 1] w fun e w' => e = .returned (.tuple #[.agg #[.string ⟨#[]⟩, .int .i64 0, .int .i64 0, .int .i64 0, .int .i64 0, .bool true, .int .i64 1, .int .i64 1], .bool true]) ∧ Ext w w' := forms_both 1 (by omega) (by omega) w
theorem form_2 (w : World) : Calls Tryz.prog 51 #[.int .u8 2] w fun e w' => e = .returned (.tuple #[.agg #[.string ⟨#[]⟩, .int .i64 0, .int .i64 0, .int .i64 0, .int .i64 0, .bool false, .int .i64 0, .int .i64 1], .bool true]) ∧ Ext w w' := forms_both 2 (by omega) (by omega) w
theorem form_3 (w : World) : Calls Tryz.prog 51 #[.int .u8 3] w fun e w' => e = .returned (.tuple #[.agg #[.string ⟨#[102]⟩, .int .i64 2, .int .i64 4, .int .i64 0, .int .i64 0, .bool true, .int .i64 2, .int .i64 1], .bool true]) ∧ Ext w w' := forms_both 3 (by omega) (by omega) w
theorem form_4 (w : World) : Calls Tryz.prog 51 #[.int .u8 4] w fun e w' => e = .returned (.tuple #[.agg #[.string ⟨#[108]⟩, .int .i64 2, .int .i64 4, .int .i64 0, .int .i64 0, .bool true, .int .i64 2, .int .i64 1], .bool true]) ∧ Ext w w' := forms_both 4 (by omega) (by omega) w
theorem form_5 (w : World) : Calls Tryz.prog 51 #[.int .u8 5] w fun e w' => e = .returned (.tuple #[.agg #[.string ⟨#[109]⟩, .int .i64 2, .int .i64 4, .int .i64 0, .int .i64 0, .bool true, .int .i64 1, .int .i64 2], .bool true]) ∧ Ext w w' := forms_both 5 (by omega) (by omega) w
theorem form_6 (w : World) : Calls Tryz.prog 51 #[.int .u8 6] w fun e w' => e = .returned (.tuple #[.agg #[.string ⟨#[120]⟩, .int .i64 1, .int .i64 6, .int .i64 1, .int .i64 6, .bool true, .int .i64 3, .int .i64 3], .bool true]) ∧ Ext w w' := forms_both 6 (by omega) (by omega) w
theorem form_7 (w : World) : Calls Tryz.prog 51 #[.int .u8 7] w fun e w' => e = .returned (.tuple #[.agg #[.string ⟨#[121]⟩, .int .i64 1, .int .i64 6, .int .i64 1, .int .i64 6, .bool true, .int .i64 3, .int .i64 3], .bool true]) ∧ Ext w w' := forms_both 7 (by omega) (by omega) w
theorem form_8 (w : World) : Calls Tryz.prog 51 #[.int .u8 8] w fun e w' => e = .returned (.tuple #[.agg #[.string ⟨#[115]⟩, .int .i64 0, .int .i64 0, .int .i64 0, .int .i64 0, .bool true, .int .i64 1, .int .i64 1], .bool true]) ∧ Ext w w' := forms_both 8 (by omega) (by omega) w
theorem form_9 (w : World) : Calls Tryz.prog 51 #[.int .u8 9] w fun e w' => e = .returned (.tuple #[.agg #[.string ⟨#[]⟩, .int .i64 1, .int .i64 200, .int .i64 0, .int .i64 0, .bool false, .int .i64 0, .int .i64 2], .bool true]) ∧ Ext w w' := forms_both 9 (by omega) (by omega) w
theorem form_10 (w : World) : Calls Tryz.prog 51 #[.int .u8 10] w fun e w' => e = .returned (.tuple #[.agg #[.string ⟨#[111]⟩, .int .i64 1, .int .i64 200, .int .i64 0, .int .i64 0, .bool true, .int .i64 2, .int .i64 0], .bool true]) ∧ Ext w w' := forms_both 10 (by omega) (by omega) w
theorem ok_ab {s : St} (h : okSt s = true) : 0 ≤ s.a ∧ s.a ≤ 200 ∧ 0 ≤ s.b ∧ s.b ≤ 6 := by
  obtain ⟨hk, ha, hb, _⟩ := ok_e h
  have ha := inR_e ha
  have hb := inR_e hb
  rcases kind_cases hk with e | e | e | e | e | e | e | e | e | e <;> rw [e] at ha hb <;> simp [fa0, fa1, fb0, fb1] at ha hb <;> omega
set_option maxHeartbeats 2000000 in
theorem word_1 (p : Bool) (a b : Int) (w : World) :
    Calls Tryz.prog 76 #[.agg #[.int .u8 1, .bool p, .int .i64 a, .int .i64 b]] w fun e w' => e = .returned (.string ⟨(wordT ⟨1, p, a, b⟩).toArray⟩) ∧ Ext w w' := by
  cases p
  · go_enter Tryz.func76, Tryz.ntmps76
    go_wp2_with (first
      | (go_at_call 51; ((with_reducible refine (form_1 _).mono ?_); rintro e w1 ⟨rfl, hq1⟩; obtain ⟨hc1, hf1, hz1⟩ := hq1.facts)))
    exact bodyPost_ret (v := .string ((⟨#[107]⟩ : ByteArray) ++ (⟨#[]⟩ : ByteArray))) (by simp [results, Tryz.f76, go_sem]) rfl ⟨congrArg (fun x => Ending.returned (.string x)) (ByteArray.ext (by rw [show wordT ⟨1, false, a, b⟩ = [107] ++ [] ++ [] ++ [] from by rfl]; simp)), by repeat (first | exact Ext.refl _ | assumption | refine Ext.alloc ?_ _ | refine Ext.drew ?_ | refine Ext.drewN ?_ _ | refine Ext.trans ?_ (by assumption))⟩
  · go_enter Tryz.func76, Tryz.ntmps76
    go_wp2_with (first
      | (go_at_call 51; ((with_reducible refine (form_1 _).mono ?_); rintro e w1 ⟨rfl, hq1⟩; obtain ⟨hc1, hf1, hz1⟩ := hq1.facts)))
    exact bodyPost_ret (v := .string ((⟨#[112]⟩ : ByteArray) ++ (⟨#[]⟩ : ByteArray))) (by simp [results, Tryz.f76, go_sem]) rfl ⟨congrArg (fun x => Ending.returned (.string x)) (ByteArray.ext (by rw [show wordT ⟨1, true, a, b⟩ = [112] ++ [] ++ [] ++ [] from by rfl]; simp)), by repeat (first | exact Ext.refl _ | assumption | refine Ext.alloc ?_ _ | refine Ext.drew ?_ | refine Ext.drewN ?_ _ | refine Ext.trans ?_ (by assumption))⟩
set_option maxHeartbeats 2000000 in
theorem word_2 (p : Bool) (a b : Int) (w : World) :
    Calls Tryz.prog 76 #[.agg #[.int .u8 2, .bool p, .int .i64 a, .int .i64 b]] w fun e w' => e = .returned (.string ⟨(wordT ⟨2, p, a, b⟩).toArray⟩) ∧ Ext w w' := by
  go_enter Tryz.func76, Tryz.ntmps76
  go_wp2
  go_ret
  exact ⟨rfl, by repeat (first | exact Ext.refl _ | assumption | refine Ext.alloc ?_ _ | refine Ext.drew ?_ | refine Ext.drewN ?_ _ | refine Ext.trans ?_ (by assumption))⟩
set_option maxHeartbeats 2000000 in
theorem word_3 (p : Bool) (a b : Int) (h0 : 0 ≤ a) (h1 : a ≤ 200) (w : World) (hg : Glob w) :
    Calls Tryz.prog 76 #[.agg #[.int .u8 3, .bool p, .int .i64 a, .int .i64 b]] w fun e w' => e = .returned (.string ⟨(wordT ⟨3, p, a, b⟩).toArray⟩) ∧ Ext w w' := by
  have HG := Lib.hid hg
  clear hg
  have d1 := dec_len a.toNat
  cases p
  · go_enter Tryz.func76, Tryz.ntmps76
    go_wp2_with (first
      | (go_at_call 51; ((with_reducible refine (form_3 _).mono ?_); rintro e w1 ⟨rfl, hq1⟩; obtain ⟨hc1, hf1, hz1⟩ := hq1.facts))
      | (go_at_call 30; (first | ((with_reducible refine (itoa_any a h0 (by omega) _ (HG.out.ext (by repeat (first | exact Ext.refl _ | assumption | refine Ext.alloc ?_ _ | refine Ext.drew ?_ | refine Ext.drewN ?_ _ | refine Ext.trans ?_ (by assumption))))).mono ?_); rintro e w2 ⟨rfl, hq2⟩; obtain ⟨hc2, hf2, hz2⟩ := hq2.facts))))
    exact bodyPost_ret (v := .string ((⟨#[107]⟩ : ByteArray) ++ (⟨#[102]⟩ : ByteArray) ++ (⟨(decD a.toNat).toArray⟩ : ByteArray))) (by simp [results, Tryz.f76, go_sem]) rfl ⟨congrArg (fun x => Ending.returned (.string x)) (ByteArray.ext (by rw [show wordT ⟨3, false, a, b⟩ = [107] ++ [102] ++ decD a.toNat ++ [] from by rfl]; simp)), by repeat (first | exact Ext.refl _ | assumption | refine Ext.alloc ?_ _ | refine Ext.drew ?_ | refine Ext.drewN ?_ _ | refine Ext.trans ?_ (by assumption))⟩
  · go_enter Tryz.func76, Tryz.ntmps76
    go_wp2_with (first
      | (go_at_call 51; ((with_reducible refine (form_3 _).mono ?_); rintro e w1 ⟨rfl, hq1⟩; obtain ⟨hc1, hf1, hz1⟩ := hq1.facts))
      | (go_at_call 30; (first | ((with_reducible refine (itoa_any a h0 (by omega) _ (HG.out.ext (by repeat (first | exact Ext.refl _ | assumption | refine Ext.alloc ?_ _ | refine Ext.drew ?_ | refine Ext.drewN ?_ _ | refine Ext.trans ?_ (by assumption))))).mono ?_); rintro e w2 ⟨rfl, hq2⟩; obtain ⟨hc2, hf2, hz2⟩ := hq2.facts))))
    exact bodyPost_ret (v := .string ((⟨#[112]⟩ : ByteArray) ++ (⟨#[102]⟩ : ByteArray) ++ (⟨(decD a.toNat).toArray⟩ : ByteArray))) (by simp [results, Tryz.f76, go_sem]) rfl ⟨congrArg (fun x => Ending.returned (.string x)) (ByteArray.ext (by rw [show wordT ⟨3, true, a, b⟩ = [112] ++ [102] ++ decD a.toNat ++ [] from by rfl]; simp)), by repeat (first | exact Ext.refl _ | assumption | refine Ext.alloc ?_ _ | refine Ext.drew ?_ | refine Ext.drewN ?_ _ | refine Ext.trans ?_ (by assumption))⟩
set_option maxHeartbeats 2000000 in
theorem word_4 (p : Bool) (a b : Int) (h0 : 0 ≤ a) (h1 : a ≤ 200) (w : World) (hg : Glob w) :
    Calls Tryz.prog 76 #[.agg #[.int .u8 4, .bool p, .int .i64 a, .int .i64 b]] w fun e w' => e = .returned (.string ⟨(wordT ⟨4, p, a, b⟩).toArray⟩) ∧ Ext w w' := by
  have HG := Lib.hid hg
  clear hg
  have d1 := dec_len a.toNat
  cases p
  · go_enter Tryz.func76, Tryz.ntmps76
    go_wp2_with (first
      | (go_at_call 51; ((with_reducible refine (form_4 _).mono ?_); rintro e w1 ⟨rfl, hq1⟩; obtain ⟨hc1, hf1, hz1⟩ := hq1.facts))
      | (go_at_call 30; (first | ((with_reducible refine (itoa_any a h0 (by omega) _ (HG.out.ext (by repeat (first | exact Ext.refl _ | assumption | refine Ext.alloc ?_ _ | refine Ext.drew ?_ | refine Ext.drewN ?_ _ | refine Ext.trans ?_ (by assumption))))).mono ?_); rintro e w2 ⟨rfl, hq2⟩; obtain ⟨hc2, hf2, hz2⟩ := hq2.facts))))
    exact bodyPost_ret (v := .string ((⟨#[107]⟩ : ByteArray) ++ (⟨#[108]⟩ : ByteArray) ++ (⟨(decD a.toNat).toArray⟩ : ByteArray))) (by simp [results, Tryz.f76, go_sem]) rfl ⟨congrArg (fun x => Ending.returned (.string x)) (ByteArray.ext (by rw [show wordT ⟨4, false, a, b⟩ = [107] ++ [108] ++ decD a.toNat ++ [] from by rfl]; simp)), by repeat (first | exact Ext.refl _ | assumption | refine Ext.alloc ?_ _ | refine Ext.drew ?_ | refine Ext.drewN ?_ _ | refine Ext.trans ?_ (by assumption))⟩
  · go_enter Tryz.func76, Tryz.ntmps76
    go_wp2_with (first
      | (go_at_call 51; ((with_reducible refine (form_4 _).mono ?_); rintro e w1 ⟨rfl, hq1⟩; obtain ⟨hc1, hf1, hz1⟩ := hq1.facts))
      | (go_at_call 30; (first | ((with_reducible refine (itoa_any a h0 (by omega) _ (HG.out.ext (by repeat (first | exact Ext.refl _ | assumption | refine Ext.alloc ?_ _ | refine Ext.drew ?_ | refine Ext.drewN ?_ _ | refine Ext.trans ?_ (by assumption))))).mono ?_); rintro e w2 ⟨rfl, hq2⟩; obtain ⟨hc2, hf2, hz2⟩ := hq2.facts))))
    exact bodyPost_ret (v := .string ((⟨#[112]⟩ : ByteArray) ++ (⟨#[108]⟩ : ByteArray) ++ (⟨(decD a.toNat).toArray⟩ : ByteArray))) (by simp [results, Tryz.f76, go_sem]) rfl ⟨congrArg (fun x => Ending.returned (.string x)) (ByteArray.ext (by rw [show wordT ⟨4, true, a, b⟩ = [112] ++ [108] ++ decD a.toNat ++ [] from by rfl]; simp)), by repeat (first | exact Ext.refl _ | assumption | refine Ext.alloc ?_ _ | refine Ext.drew ?_ | refine Ext.drewN ?_ _ | refine Ext.trans ?_ (by assumption))⟩
set_option maxHeartbeats 2000000 in
theorem word_5 (p : Bool) (a b : Int) (h0 : 0 ≤ a) (h1 : a ≤ 200) (w : World) (hg : Glob w) :
    Calls Tryz.prog 76 #[.agg #[.int .u8 5, .bool p, .int .i64 a, .int .i64 b]] w fun e w' => e = .returned (.string ⟨(wordT ⟨5, p, a, b⟩).toArray⟩) ∧ Ext w w' := by
  have HG := Lib.hid hg
  clear hg
  have d1 := dec_len a.toNat
  cases p
  · go_enter Tryz.func76, Tryz.ntmps76
    go_wp2_with (first
      | (go_at_call 51; ((with_reducible refine (form_5 _).mono ?_); rintro e w1 ⟨rfl, hq1⟩; obtain ⟨hc1, hf1, hz1⟩ := hq1.facts))
      | (go_at_call 30; (first | ((with_reducible refine (itoa_any a h0 (by omega) _ (HG.out.ext (by repeat (first | exact Ext.refl _ | assumption | refine Ext.alloc ?_ _ | refine Ext.drew ?_ | refine Ext.drewN ?_ _ | refine Ext.trans ?_ (by assumption))))).mono ?_); rintro e w2 ⟨rfl, hq2⟩; obtain ⟨hc2, hf2, hz2⟩ := hq2.facts))))
    exact bodyPost_ret (v := .string ((⟨#[107]⟩ : ByteArray) ++ (⟨#[109]⟩ : ByteArray) ++ (⟨(decD a.toNat).toArray⟩ : ByteArray))) (by simp [results, Tryz.f76, go_sem]) rfl ⟨congrArg (fun x => Ending.returned (.string x)) (ByteArray.ext (by rw [show wordT ⟨5, false, a, b⟩ = [107] ++ [109] ++ decD a.toNat ++ [] from by rfl]; simp)), by repeat (first | exact Ext.refl _ | assumption | refine Ext.alloc ?_ _ | refine Ext.drew ?_ | refine Ext.drewN ?_ _ | refine Ext.trans ?_ (by assumption))⟩
  · go_enter Tryz.func76, Tryz.ntmps76
    go_wp2_with (first
      | (go_at_call 51; ((with_reducible refine (form_5 _).mono ?_); rintro e w1 ⟨rfl, hq1⟩; obtain ⟨hc1, hf1, hz1⟩ := hq1.facts))
      | (go_at_call 30; (first | ((with_reducible refine (itoa_any a h0 (by omega) _ (HG.out.ext (by repeat (first | exact Ext.refl _ | assumption | refine Ext.alloc ?_ _ | refine Ext.drew ?_ | refine Ext.drewN ?_ _ | refine Ext.trans ?_ (by assumption))))).mono ?_); rintro e w2 ⟨rfl, hq2⟩; obtain ⟨hc2, hf2, hz2⟩ := hq2.facts))))
    exact bodyPost_ret (v := .string ((⟨#[112]⟩ : ByteArray) ++ (⟨#[109]⟩ : ByteArray) ++ (⟨(decD a.toNat).toArray⟩ : ByteArray))) (by simp [results, Tryz.f76, go_sem]) rfl ⟨congrArg (fun x => Ending.returned (.string x)) (ByteArray.ext (by rw [show wordT ⟨5, true, a, b⟩ = [112] ++ [109] ++ decD a.toNat ++ [] from by rfl]; simp)), by repeat (first | exact Ext.refl _ | assumption | refine Ext.alloc ?_ _ | refine Ext.drew ?_ | refine Ext.drewN ?_ _ | refine Ext.trans ?_ (by assumption))⟩
set_option maxHeartbeats 2000000 in
theorem word_6 (p : Bool) (a b : Int) (h0 : 0 ≤ a) (h1 : a ≤ 200) (h2 : 0 ≤ b) (h3 : b ≤ 6) (w : World) (hg : Glob w) :
    Calls Tryz.prog 76 #[.agg #[.int .u8 6, .bool p, .int .i64 a, .int .i64 b]] w fun e w' => e = .returned (.string ⟨(wordT ⟨6, p, a, b⟩).toArray⟩) ∧ Ext w w' := by
  have HG := Lib.hid hg
  clear hg
  have d1 := dec_len a.toNat
  have d2 := dec_len b.toNat
  cases p
  · go_enter Tryz.func76, Tryz.ntmps76
    go_wp2_with (first
      | (go_at_call 51; ((with_reducible refine (form_6 _).mono ?_); rintro e w1 ⟨rfl, hq1⟩; obtain ⟨hc1, hf1, hz1⟩ := hq1.facts))
      | (go_at_call 30; (first | ((with_reducible refine (itoa_any a h0 (by omega) _ (HG.out.ext (by repeat (first | exact Ext.refl _ | assumption | refine Ext.alloc ?_ _ | refine Ext.drew ?_ | refine Ext.drewN ?_ _ | refine Ext.trans ?_ (by assumption))))).mono ?_); rintro e w2 ⟨rfl, hq2⟩; obtain ⟨hc2, hf2, hz2⟩ := hq2.facts; have hqb := Ext.trans hq1 (Ext.trans ((Ext.refl w1).alloc (.cells #[.string ⟨#[120]⟩, .int .i64 1, .int .i64 6, .int .i64 1, .int .i64 6, .bool true, .int .i64 3, .int .i64 3] 100)) hq2); obtain ⟨hcb, hfb, hzb⟩ := hqb.facts) | ((with_reducible refine (itoa_any b h2 (by omega) _ (HG.out.ext (by repeat (first | exact Ext.refl _ | assumption | refine Ext.alloc ?_ _ | refine Ext.drew ?_ | refine Ext.drewN ?_ _ | refine Ext.trans ?_ (by assumption))))).mono ?_); rintro e w3 ⟨rfl, hq3⟩))))
    exact bodyPost_ret (v := .string ((⟨#[107]⟩ : ByteArray) ++ (⟨#[120]⟩ : ByteArray) ++ (⟨(decD a.toNat).toArray⟩ : ByteArray) ++ ((⟨#[47]⟩ : ByteArray) ++ (⟨(decD b.toNat).toArray⟩ : ByteArray)))) (by simp [results, Tryz.f76, go_sem]) rfl ⟨congrArg (fun x => Ending.returned (.string x)) (ByteArray.ext (by rw [show wordT ⟨6, false, a, b⟩ = [107] ++ [120] ++ decD a.toNat ++ (47 :: decD b.toNat) from by rfl]; simp)), by repeat (first | exact Ext.refl _ | assumption | refine Ext.alloc ?_ _ | refine Ext.drew ?_ | refine Ext.drewN ?_ _ | refine Ext.trans ?_ (by assumption))⟩
  · go_enter Tryz.func76, Tryz.ntmps76
    go_wp2_with (first
      | (go_at_call 51; ((with_reducible refine (form_6 _).mono ?_); rintro e w1 ⟨rfl, hq1⟩; obtain ⟨hc1, hf1, hz1⟩ := hq1.facts))
      | (go_at_call 30; (first | ((with_reducible refine (itoa_any a h0 (by omega) _ (HG.out.ext (by repeat (first | exact Ext.refl _ | assumption | refine Ext.alloc ?_ _ | refine Ext.drew ?_ | refine Ext.drewN ?_ _ | refine Ext.trans ?_ (by assumption))))).mono ?_); rintro e w2 ⟨rfl, hq2⟩; obtain ⟨hc2, hf2, hz2⟩ := hq2.facts; have hqb := Ext.trans hq1 (Ext.trans ((Ext.refl w1).alloc (.cells #[.string ⟨#[120]⟩, .int .i64 1, .int .i64 6, .int .i64 1, .int .i64 6, .bool true, .int .i64 3, .int .i64 3] 100)) hq2); obtain ⟨hcb, hfb, hzb⟩ := hqb.facts) | ((with_reducible refine (itoa_any b h2 (by omega) _ (HG.out.ext (by repeat (first | exact Ext.refl _ | assumption | refine Ext.alloc ?_ _ | refine Ext.drew ?_ | refine Ext.drewN ?_ _ | refine Ext.trans ?_ (by assumption))))).mono ?_); rintro e w3 ⟨rfl, hq3⟩))))
    exact bodyPost_ret (v := .string ((⟨#[112]⟩ : ByteArray) ++ (⟨#[120]⟩ : ByteArray) ++ (⟨(decD a.toNat).toArray⟩ : ByteArray) ++ ((⟨#[47]⟩ : ByteArray) ++ (⟨(decD b.toNat).toArray⟩ : ByteArray)))) (by simp [results, Tryz.f76, go_sem]) rfl ⟨congrArg (fun x => Ending.returned (.string x)) (ByteArray.ext (by rw [show wordT ⟨6, true, a, b⟩ = [112] ++ [120] ++ decD a.toNat ++ (47 :: decD b.toNat) from by rfl]; simp)), by repeat (first | exact Ext.refl _ | assumption | refine Ext.alloc ?_ _ | refine Ext.drew ?_ | refine Ext.drewN ?_ _ | refine Ext.trans ?_ (by assumption))⟩
set_option maxHeartbeats 2000000 in
theorem word_7 (p : Bool) (a b : Int) (h0 : 0 ≤ a) (h1 : a ≤ 200) (h2 : 0 ≤ b) (h3 : b ≤ 6) (w : World) (hg : Glob w) :
    Calls Tryz.prog 76 #[.agg #[.int .u8 7, .bool p, .int .i64 a, .int .i64 b]] w fun e w' => e = .returned (.string ⟨(wordT ⟨7, p, a, b⟩).toArray⟩) ∧ Ext w w' := by
  have HG := Lib.hid hg
  clear hg
  have d1 := dec_len a.toNat
  have d2 := dec_len b.toNat
  cases p
  · go_enter Tryz.func76, Tryz.ntmps76
    go_wp2_with (first
      | (go_at_call 51; ((with_reducible refine (form_7 _).mono ?_); rintro e w1 ⟨rfl, hq1⟩; obtain ⟨hc1, hf1, hz1⟩ := hq1.facts))
      | (go_at_call 30; (first | ((with_reducible refine (itoa_any a h0 (by omega) _ (HG.out.ext (by repeat (first | exact Ext.refl _ | assumption | refine Ext.alloc ?_ _ | refine Ext.drew ?_ | refine Ext.drewN ?_ _ | refine Ext.trans ?_ (by assumption))))).mono ?_); rintro e w2 ⟨rfl, hq2⟩; obtain ⟨hc2, hf2, hz2⟩ := hq2.facts; have hqb := Ext.trans hq1 (Ext.trans ((Ext.refl w1).alloc (.cells #[.string ⟨#[121]⟩, .int .i64 1, .int .i64 6, .int .i64 1, .int .i64 6, .bool true, .int .i64 3, .int .i64 3] 100)) hq2); obtain ⟨hcb, hfb, hzb⟩ := hqb.facts) | ((with_reducible refine (itoa_any b h2 (by omega) _ (HG.out.ext (by repeat (first | exact Ext.refl _ | assumption | refine Ext.alloc ?_ _ | refine Ext.drew ?_ | refine Ext.drewN ?_ _ | refine Ext.trans ?_ (by assumption))))).mono ?_); rintro e w3 ⟨rfl, hq3⟩))))
    exact bodyPost_ret (v := .string ((⟨#[107]⟩ : ByteArray) ++ (⟨#[121]⟩ : ByteArray) ++ (⟨(decD a.toNat).toArray⟩ : ByteArray) ++ ((⟨#[47]⟩ : ByteArray) ++ (⟨(decD b.toNat).toArray⟩ : ByteArray)))) (by simp [results, Tryz.f76, go_sem]) rfl ⟨congrArg (fun x => Ending.returned (.string x)) (ByteArray.ext (by rw [show wordT ⟨7, false, a, b⟩ = [107] ++ [121] ++ decD a.toNat ++ (47 :: decD b.toNat) from by rfl]; simp)), by repeat (first | exact Ext.refl _ | assumption | refine Ext.alloc ?_ _ | refine Ext.drew ?_ | refine Ext.drewN ?_ _ | refine Ext.trans ?_ (by assumption))⟩
  · go_enter Tryz.func76, Tryz.ntmps76
    go_wp2_with (first
      | (go_at_call 51; ((with_reducible refine (form_7 _).mono ?_); rintro e w1 ⟨rfl, hq1⟩; obtain ⟨hc1, hf1, hz1⟩ := hq1.facts))
      | (go_at_call 30; (first | ((with_reducible refine (itoa_any a h0 (by omega) _ (HG.out.ext (by repeat (first | exact Ext.refl _ | assumption | refine Ext.alloc ?_ _ | refine Ext.drew ?_ | refine Ext.drewN ?_ _ | refine Ext.trans ?_ (by assumption))))).mono ?_); rintro e w2 ⟨rfl, hq2⟩; obtain ⟨hc2, hf2, hz2⟩ := hq2.facts; have hqb := Ext.trans hq1 (Ext.trans ((Ext.refl w1).alloc (.cells #[.string ⟨#[121]⟩, .int .i64 1, .int .i64 6, .int .i64 1, .int .i64 6, .bool true, .int .i64 3, .int .i64 3] 100)) hq2); obtain ⟨hcb, hfb, hzb⟩ := hqb.facts) | ((with_reducible refine (itoa_any b h2 (by omega) _ (HG.out.ext (by repeat (first | exact Ext.refl _ | assumption | refine Ext.alloc ?_ _ | refine Ext.drew ?_ | refine Ext.drewN ?_ _ | refine Ext.trans ?_ (by assumption))))).mono ?_); rintro e w3 ⟨rfl, hq3⟩))))
    exact bodyPost_ret (v := .string ((⟨#[112]⟩ : ByteArray) ++ (⟨#[121]⟩ : ByteArray) ++ (⟨(decD a.toNat).toArray⟩ : ByteArray) ++ ((⟨#[47]⟩ : ByteArray) ++ (⟨(decD b.toNat).toArray⟩ : ByteArray)))) (by simp [results, Tryz.f76, go_sem]) rfl ⟨congrArg (fun x => Ending.returned (.string x)) (ByteArray.ext (by rw [show wordT ⟨7, true, a, b⟩ = [112] ++ [121] ++ decD a.toNat ++ (47 :: decD b.toNat) from by rfl]; simp)), by repeat (first | exact Ext.refl _ | assumption | refine Ext.alloc ?_ _ | refine Ext.drew ?_ | refine Ext.drewN ?_ _ | refine Ext.trans ?_ (by assumption))⟩
set_option maxHeartbeats 2000000 in
theorem word_8 (p : Bool) (a b : Int) (w : World) :
    Calls Tryz.prog 76 #[.agg #[.int .u8 8, .bool p, .int .i64 a, .int .i64 b]] w fun e w' => e = .returned (.string ⟨(wordT ⟨8, p, a, b⟩).toArray⟩) ∧ Ext w w' := by
  cases p
  · go_enter Tryz.func76, Tryz.ntmps76
    go_wp2_with (first
      | (go_at_call 51; ((with_reducible refine (form_8 _).mono ?_); rintro e w1 ⟨rfl, hq1⟩; obtain ⟨hc1, hf1, hz1⟩ := hq1.facts)))
    exact bodyPost_ret (v := .string ((⟨#[107]⟩ : ByteArray) ++ (⟨#[115]⟩ : ByteArray))) (by simp [results, Tryz.f76, go_sem]) rfl ⟨congrArg (fun x => Ending.returned (.string x)) (ByteArray.ext (by rw [show wordT ⟨8, false, a, b⟩ = [107] ++ [115] ++ [] ++ [] from by rfl]; simp)), by repeat (first | exact Ext.refl _ | assumption | refine Ext.alloc ?_ _ | refine Ext.drew ?_ | refine Ext.drewN ?_ _ | refine Ext.trans ?_ (by assumption))⟩
  · go_enter Tryz.func76, Tryz.ntmps76
    go_wp2_with (first
      | (go_at_call 51; ((with_reducible refine (form_8 _).mono ?_); rintro e w1 ⟨rfl, hq1⟩; obtain ⟨hc1, hf1, hz1⟩ := hq1.facts)))
    exact bodyPost_ret (v := .string ((⟨#[112]⟩ : ByteArray) ++ (⟨#[115]⟩ : ByteArray))) (by simp [results, Tryz.f76, go_sem]) rfl ⟨congrArg (fun x => Ending.returned (.string x)) (ByteArray.ext (by rw [show wordT ⟨8, true, a, b⟩ = [112] ++ [115] ++ [] ++ [] from by rfl]; simp)), by repeat (first | exact Ext.refl _ | assumption | refine Ext.alloc ?_ _ | refine Ext.drew ?_ | refine Ext.drewN ?_ _ | refine Ext.trans ?_ (by assumption))⟩
set_option maxHeartbeats 2000000 in
theorem word_9 (p : Bool) (a b : Int) (h0 : 0 ≤ a) (h1 : a ≤ 200) (w : World) (hg : Glob w) :
    Calls Tryz.prog 76 #[.agg #[.int .u8 9, .bool p, .int .i64 a, .int .i64 b]] w fun e w' => e = .returned (.string ⟨(wordT ⟨9, p, a, b⟩).toArray⟩) ∧ Ext w w' := by
  have HG := Lib.hid hg
  clear hg
  have d1 := dec_len a.toNat
  go_enter Tryz.func76, Tryz.ntmps76
  go_wp2_with (first
      | (go_at_call 30; (first | ((with_reducible refine (itoa_any a h0 (by omega) _ (HG.out.ext (by repeat (first | exact Ext.refl _ | assumption | refine Ext.alloc ?_ _ | refine Ext.drew ?_ | refine Ext.drewN ?_ _ | refine Ext.trans ?_ (by assumption))))).mono ?_); rintro e w2 ⟨rfl, hq2⟩; obtain ⟨hc2, hf2, hz2⟩ := hq2.facts))))
  go_ret
  exact ⟨congrArg (fun x => Ending.returned (.string x)) (ByteArray.ext (by rw [show wordT ⟨9, p, a, b⟩ = [111, 110] ++ decD a.toNat from rfl]; simp)), by repeat (first | exact Ext.refl _ | assumption | refine Ext.alloc ?_ _ | refine Ext.drew ?_ | refine Ext.drewN ?_ _ | refine Ext.trans ?_ (by assumption))⟩
set_option maxHeartbeats 2000000 in
theorem word_10 (p : Bool) (a b : Int) (h0 : 0 ≤ a) (h1 : a ≤ 200) (w : World) (hg : Glob w) :
    Calls Tryz.prog 76 #[.agg #[.int .u8 10, .bool p, .int .i64 a, .int .i64 b]] w fun e w' => e = .returned (.string ⟨(wordT ⟨10, p, a, b⟩).toArray⟩) ∧ Ext w w' := by
  have HG := Lib.hid hg
  clear hg
  have d1 := dec_len a.toNat
  cases p
  · go_enter Tryz.func76, Tryz.ntmps76
    go_wp2_with (first
      | (go_at_call 51; ((with_reducible refine (form_10 _).mono ?_); rintro e w1 ⟨rfl, hq1⟩; obtain ⟨hc1, hf1, hz1⟩ := hq1.facts))
      | (go_at_call 30; (first | ((with_reducible refine (itoa_any a h0 (by omega) _ (HG.out.ext (by repeat (first | exact Ext.refl _ | assumption | refine Ext.alloc ?_ _ | refine Ext.drew ?_ | refine Ext.drewN ?_ _ | refine Ext.trans ?_ (by assumption))))).mono ?_); rintro e w2 ⟨rfl, hq2⟩; obtain ⟨hc2, hf2, hz2⟩ := hq2.facts))))
    exact bodyPost_ret (v := .string ((⟨#[107]⟩ : ByteArray) ++ (⟨#[111]⟩ : ByteArray) ++ (⟨(decD a.toNat).toArray⟩ : ByteArray))) (by simp [results, Tryz.f76, go_sem]) rfl ⟨congrArg (fun x => Ending.returned (.string x)) (ByteArray.ext (by rw [show wordT ⟨10, false, a, b⟩ = [107] ++ [111] ++ decD a.toNat ++ [] from by rfl]; simp)), by repeat (first | exact Ext.refl _ | assumption | refine Ext.alloc ?_ _ | refine Ext.drew ?_ | refine Ext.drewN ?_ _ | refine Ext.trans ?_ (by assumption))⟩
  · go_enter Tryz.func76, Tryz.ntmps76
    go_wp2_with (first
      | (go_at_call 51; ((with_reducible refine (form_10 _).mono ?_); rintro e w1 ⟨rfl, hq1⟩; obtain ⟨hc1, hf1, hz1⟩ := hq1.facts))
      | (go_at_call 30; (first | ((with_reducible refine (itoa_any a h0 (by omega) _ (HG.out.ext (by repeat (first | exact Ext.refl _ | assumption | refine Ext.alloc ?_ _ | refine Ext.drew ?_ | refine Ext.drewN ?_ _ | refine Ext.trans ?_ (by assumption))))).mono ?_); rintro e w2 ⟨rfl, hq2⟩; obtain ⟨hc2, hf2, hz2⟩ := hq2.facts))))
    exact bodyPost_ret (v := .string ((⟨#[112]⟩ : ByteArray) ++ (⟨#[111]⟩ : ByteArray) ++ (⟨(decD a.toNat).toArray⟩ : ByteArray))) (by simp [results, Tryz.f76, go_sem]) rfl ⟨congrArg (fun x => Ending.returned (.string x)) (ByteArray.ext (by rw [show wordT ⟨10, true, a, b⟩ = [112] ++ [111] ++ decD a.toNat ++ [] from by rfl]; simp)), by repeat (first | exact Ext.refl _ | assumption | refine Ext.alloc ?_ _ | refine Ext.drew ?_ | refine Ext.drewN ?_ _ | refine Ext.trans ?_ (by assumption))⟩
theorem word_any (s : St) (h : okSt s = true) (w : World) (hg : Glob w) :
    Calls Tryz.prog 76 #[.agg #[.int .u8 s.k, .bool s.p, .int .i64 s.a, .int .i64 s.b]] w fun e w' => e = .returned (.string ⟨(wordT s).toArray⟩) ∧ Ext w w' := by
  obtain ⟨h0, h1, h2, h3⟩ := ok_ab h
  obtain ⟨k, p, a, b⟩ := s
  have hk := ok_kind h
  simp only at h0 h1 h2 h3 hk ⊢
  rcases kind_cases hk with e | e | e | e | e | e | e | e | e | e <;> subst e
  · exact word_1 p a b w
  · exact word_2 p a b w
  · exact word_3 p a b h0 h1 w hg
  · exact word_4 p a b h0 h1 w hg
  · exact word_5 p a b h0 h1 w hg
  · exact word_6 p a b h0 h1 h2 h3 w hg
  · exact word_7 p a b h0 h1 h2 h3 w hg
  · exact word_8 p a b w
  · exact word_9 p a b h0 h1 w hg
  · exact word_10 p a b h0 h1 w hg
end Go.Proofs.YtjjhoonkooihjaaGreatDoor
/- The text of a list of stitches. -/
namespace Go.Proofs.YtjjhoonkooihjaaGreatDoor
set_option maxRecDepth 100000
open Go.RowKit
theorem grp_head {t : List St} {s : St} {n : Nat} {g : List (St × Nat)} (h : grp t = (s, n) :: g) : t ≠ [] ∧ t.getD 0 st0 = s := by
  cases t with
  | nil => cases h
  | cons x t =>
    refine ⟨by simp, ?_⟩
    rcases grp_cons x t with ⟨m, g', h1, h2, h3⟩ | ⟨h1, h2⟩
    · rw [h3] at h; injection h with h4 _; injection h4
    · rw [h1] at h; injection h with h4 _; injection h4
/-- a run of equal knits is one group -/
theorem grp_run : ∀ (q : Nat) (l : List St) (s : St), 1 ≤ q → q ≤ l.length → (∀ t, t < q → l.getD t st0 = s) → (q = 1 ∨ s.k = 1) → (s.k ≠ 1 ∨ q = l.length ∨ l.getD q st0 ≠ s) → grp l = (s, q) :: grp (l.drop q) := by
  intro q
  induction q with
  | zero => intro l s h; omega
  | succ q ih =>
    intro l s _ hl hs hk hst
    cases l with
    | nil => simp at hl
    | cons x t =>
      have hx : x = s := by have := hs 0 (by omega); simpa using this
      subst hx
      rcases Nat.eq_zero_or_pos q with h0 | h0
      · subst h0
        rcases grp_cons x t with ⟨m, g, h1, h2, h3⟩ | ⟨h1, h2⟩
        · exfalso
          obtain ⟨g1, g2⟩ := grp_head h1
          rcases hst with h | h | h
          · exact h h2
          · simp at h; exact g1 h
          · simp at h
            apply h
            rw [List.getD_eq_getElem?_getD] at g2
            exact g2
        · rw [h1]; rfl
      · have hk1 : x.k = 1 := by rcases hk with h | h
                                 · omega
                                 · exact h
        have h4 := ih t x h0 (by simpa using hl) (fun j hj => by have := hs (j + 1) (by omega); simpa using this) (.inr hk1) (by
          rcases hst with h | h | h
          · exact .inl h
          · right; left; simpa using h
          · right; right; simpa using h)
        rw [grp, h4]
        simp [hk1]
theorem joinB_len (d : UInt8) (ws : List (List UInt8)) (m : Nat) (h : ∀ x ∈ ws, x.length ≤ m) : (joinB d ws).length ≤ (m + 1) * ws.length := join_len_le h
theorem wordG_len {x : St × Nat} (h : okSt x.1 = true) : (wordG x).length ≤ 100 := by
  have h1 := List.all_eq_true.1 words_ok x.1 (mem_allSt h)
  simp only [wordOk, Bool.and_eq_true, decide_eq_true_eq] at h1
  have h2 := dec_len x.2
  unfold wordG
  rw [List.length_append]
  split
  · omega
  · simp; omega
set_option maxHeartbeats 4000000 in
theorem text_any (n c : Nat) (A : Option Addr) (l : List St) (w : World) (hl : Vec shSt w A n l) (hn : n ≤ 200) (ho : allB l = true) (hg : Glob w) :
    Calls Tryz.prog 54 #[.slice A n c] w fun e w' => e = .returned (.string ⟨(textL l).toArray⟩) ∧ Ext w w' := by
  have HX := Lib.hid hl
  have HO := Lib.hid ho
  have HG := Lib.hid hg
  have HL := Lib.hid hl.1
  have HW := Lib.hid (show (joinB 32 ((grp l).map wordG)).length ≤ 100000000 by
    have h1 := joinB_len 32 ((grp l).map wordG) 100 (fun x hx => by
      obtain ⟨y, hy, rfl⟩ := List.mem_map.1 hx
      exact wordG_len (List.all_eq_true.1 ho _ (grp_mem hy).1))
    have h2 := grp_len l
    have h3 := hl.1
    rw [List.length_map] at h1
    omega)
  clear hl ho hg
  go_enter Tryz.func54, Tryz.ntmps54
  go_wp2_with fail
  go_loopw [3, 4] (fun u i wr => ∃ (V : Value) (k j : Nat) (ws : List (List UInt8)), V = u ∧ i = .int .i64 k ∧ k ≤ n ∧ j ≤ k ∧ Hid (OwnV shStr wr w.heap.size 9 V j ws) ∧ Hid (Ext w wr) ∧ Hid (ws ++ (grp (l.drop k)).map wordG = (grp l).map wordG)) (fun _ i _ => n - (intOf i).toNat)
  case atStart => exact ⟨_, 0, 0, [], rfl, rfl, Nat.zero_le _, Nat.le_refl _, Lib.hid (OwnV.nil _ _ _ _), Lib.hid (by repeat (first | exact Ext.refl _ | assumption | refine Ext.alloc ?_ _ | refine Ext.drew ?_ | refine Ext.drewN ?_ _ | refine Ext.trans ?_ (by assumption))), Lib.hid (by simp)⟩
  case round =>
    obtain ⟨V, k, j, ws, rfl, rfl, hk, hj, HV, HE, HT⟩ := hrel
    obtain ⟨wa, rfl⟩ : ∃ wa : World, wa = wr := ⟨_, rfl⟩
    have hxr := HE.out
    by_cases hlt : k < n
    · obtain ⟨b, off, rfl, hb1, hc⟩ := Sts.all (Vec.ext HX.out HE.out) (by omega)
      have HC := Lib.hid hc
      obtain ⟨c1, c2, c3, c4⟩ := hc k hlt
      have hok := allB_at HO.out (k := k) (by rw [HL.out]; omega)
      obtain ⟨s, hs⟩ : ∃ s, l.getD k st0 = s := ⟨_, rfl⟩
      rw [hs] at c1 c2 c3 c4 hok
      have HS := Lib.hid hs
      clear hs hc
      obtain ⟨sk, sp, sa, sb⟩ := s
      simp only at c1 c2 c3 c4
      have q0 : (0 : Int) ≤ (k : Int) := by omega
      have q1 : (k : Int) < (n : Int) := by omega
      obtain ⟨T, hT⟩ : ∃ T, wordT ⟨sk, sp, sa, sb⟩ = T := ⟨_, rfl⟩
      have HWC := Lib.hid (show ∀ w', Glob w' → Calls Tryz.prog 76 #[.agg #[.int .u8 sk, .bool sp, .int .i64 sa, .int .i64 sb]] w' fun e w'' => e = .returned (.string ⟨T.toArray⟩) ∧ Ext w' w'' from fun w' hg => by
        have h9 := word_any ⟨sk, sp, sa, sb⟩ hok w' hg
        rw [hT] at h9
        exact h9)
      have tl : T.length ≤ 100 := by
        have h9 := wordG_len (x := (⟨sk, sp, sa, sb⟩, 1)) hok
        rw [← hT]
        simpa [wordG] using h9
      have HTG1 := Lib.hid (show wordG (⟨sk, sp, sa, sb⟩, 1) = T by rw [← hT]; simp [wordG])
      have HTT := Lib.hid hT
      have hn9 : (n : Int) ≤ 200 := by omega
      clear hT
      go_wp2_with fail
      go_loopw [5] (fun q wi => ∃ (m : Nat), q = .int .i64 m ∧ 1 ≤ m ∧ k + m ≤ n ∧ Hid (m = 1 ∨ sk = 1) ∧ Hid (∀ t, t < m → l.getD (k + t) st0 = ⟨sk, sp, sa, sb⟩) ∧ Hid (Ext wa wi)) (fun q _ => n - k - (intOf q).toNat)
      case atStart => exact ⟨1, rfl, Nat.le_refl _, by omega, Lib.hid (.inl rfl), Lib.hid (fun t ht => (by obtain rfl : t = 0 := (by omega); exact HS.out)), Lib.hid (by repeat (first | exact Ext.refl _ | assumption | refine Ext.alloc ?_ _ | refine Ext.drew ?_ | refine Ext.drewN ?_ _ | refine Ext.trans ?_ (by assumption)))⟩
      case round =>
        obtain ⟨m, rfl, hm1, hm2, hm3, HA, HE2⟩ := hrel
        have HE3 := Lib.hid (HE.out.trans HE2.out)
        have HEX := Lib.hid (fun (w' : World) (h : Ext wr w') => (⟨HE3.out.trans h, HE2.out.trans h⟩ : Ext w w' ∧ Ext wa w'))
        have d1 := (Below.cell (p := ⟨b, off + k * 4, none⟩) HE2.out hb1).trans c1
        have d2 := (Below.cell (p := ⟨b, off + k * 4 + 1, none⟩) HE2.out hb1).trans c2
        have d3 := (Below.cell (p := ⟨b, off + k * 4 + 2, none⟩) HE2.out hb1).trans c3
        have d4 := (Below.cell (p := ⟨b, off + k * 4 + 3, none⟩) HE2.out hb1).trans c4
        by_cases hk1 : sk = 1
        · by_cases hkm : k + m < n
          · obtain ⟨e1, e2, e3, e4⟩ := HC.out (k + m) hkm
            replace e1 := (Below.cell (p := ⟨b, _, none⟩) HE2.out hb1).trans e1
            replace e2 := (Below.cell (p := ⟨b, _, none⟩) HE2.out hb1).trans e2
            replace e3 := (Below.cell (p := ⟨b, _, none⟩) HE2.out hb1).trans e3
            replace e4 := (Below.cell (p := ⟨b, _, none⟩) HE2.out hb1).trans e4
            have i1 := IntWalk.i64_in ((k : Int) + (m : Int)) (by omega)
            have q2 : (0 : Int) ≤ (k : Int) + (m : Int) := by omega
            have q3 : (k : Int) + (m : Int) < (n : Int) := by omega
            by_cases hxy : l.getD (k + m) st0 = ⟨sk, sp, sa, sb⟩
            · rw [hxy] at e1 e2 e3 e4
              simp only at e1 e2 e3 e4
              have HA2 := Lib.hid (show ∀ t, t < m + 1 → l.getD (k + t) st0 = ⟨sk, sp, sa, sb⟩ from fun t ht => by
                by_cases e : t = m
                · subst e; exact hxy
                · exact HA.out t (by omega))
              clear hxy
              subst hk1
              go_wp2_with fail
              go_quiet (fail)
              go_wp2
              go_roundw
              case rel => exact ⟨m + 1, by go_num, by omega, by omega, Lib.hid (by first | exact .inr rfl | exact .inr trivial), HA2, Lib.hid (by repeat (first | exact Ext.refl _ | assumption | refine Ext.alloc ?_ _ | refine Ext.drew ?_ | refine Ext.drewN ?_ _ | refine Ext.trans ?_ (by assumption)))⟩
              case measure => simp [intOf]; omega
            · generalize hy : l.getD (k + m) st0 = y at *
              obtain ⟨y1, y2, y3, y4⟩ := y
              simp only at e1 e2 e3 e4
              have hne := run_st_eq hxy
              have HNE := Lib.hid hxy
              clear hxy
              subst hk1
              go_wp2_with fail
              go_quiet (fail)
              go_wp2_with fail
              have HQ := Lib.hid (show grp (l.drop k) = (⟨1, sp, sa, sb⟩, m) :: grp (l.drop (k + m)) by
                have h9 := grp_run m (l.drop k) ⟨1, sp, sa, sb⟩ hm1 (by rw [List.length_drop, HL.out]; omega) (fun t ht => by rw [← HA.out t ht]; simp [List.getD_eq_getElem?_getD]) (.inr rfl) (.inr (.inr (by have h8 : (l.drop k).getD m st0 = ⟨y1, y2, y3, y4⟩ := (by rw [← hy]; simp [List.getD_eq_getElem?_getD]); rw [h8]; exact HNE.out)))
                rw [h9, List.drop_drop])
              by_cases hm : m = 1
              · subst hm
                go_wp2_with (first
                  | (go_at_call 76; go_loud (((with_reducible refine (HWC.out _ (HG.out.ext (HE3.out.trans (by repeat (first | exact Ext.refl _ | assumption | refine Ext.alloc ?_ _ | refine Ext.drew ?_ | refine Ext.drewN ?_ _ | refine Ext.trans ?_ (by assumption)))))).mono ?_); rintro e w5 ⟨rfl, hq5⟩; have HE5 := Lib.hid (HEX.out _ (Ext.trans (by repeat (first | exact Ext.refl _ | assumption | refine Ext.alloc ?_ _ | refine Ext.drew ?_ | refine Ext.drewN ?_ _ | refine Ext.trans ?_ (by assumption))) hq5)).1; have HX5 := Lib.hid (HEX.out _ (Ext.trans (by repeat (first | exact Ext.refl _ | assumption | refine Ext.alloc ?_ _ | refine Ext.drew ?_ | refine Ext.drewN ?_ _ | refine Ext.trans ?_ (by assumption))) hq5)).2; clear hq5)))
                  | (at_builtin; go_loud (refine wpList_append_vecsB (S := shStr) (w := w) (m := 1) (xs := [T]) 58 9 (.string ⟨#[]⟩) 16 (by rfl) (by rfl) Tryz.underlying58 info_str (by rfl) (by omega) (by rfl) (by rfl) (OwnV.ext HV.out (HX5.out.trans (by repeat (first | exact Ext.refl _ | assumption | refine Ext.alloc ?_ _ | refine Ext.drew ?_ | refine Ext.drewN ?_ _ | refine Ext.trans ?_ (by assumption))))) (HE5.out.trans (by repeat (first | exact Ext.refl _ | assumption | refine Ext.alloc ?_ _ | refine Ext.drew ?_ | refine Ext.drewN ?_ _ | refine Ext.trans ?_ (by assumption)))) (Vec.lit2 (by simp) rfl rfl) (by omega) ?_; intro v' w6 hown6 hext6 hgr6)))
                have HN := Lib.hid hown6
                have HF := Lib.hid (show (ws ++ [T]) ++ (grp (l.drop (k + 1))).map wordG = (grp l).map wordG by
                  rw [← HT.out, HQ.out, ← HTG1.out]
                  simp)
                clear hown6 hgr6
                go_roundw
                case rel => exact ⟨v', k + 1, j + 1, ws ++ [T], rfl, by go_num, by omega, by omega, HN, hext6, HF⟩
                case measure => simp [intOf]; omega
              · have hm9 : (1 : Int) < (m : Int) := by omega
                obtain ⟨D, hD⟩ : ∃ D, decD m = D := ⟨_, rfl⟩
                obtain ⟨G, hG⟩ : ∃ G, T ++ D = G := ⟨_, rfl⟩
                have HIC := Lib.hid (show ∀ w', Glob w' → Calls Tryz.prog 30 #[.int .i64 (m : Int)] w' fun e w'' => e = .returned (.string ⟨D.toArray⟩) ∧ Ext w' w'' from fun w' hg => by
                  have h9 := itoa_any (m : Int) (by omega) (by omega) w' hg
                  rw [Int.toNat_natCast, hD] at h9
                  exact h9)
                have hcat : (⟨T.toArray⟩ ++ ⟨D.toArray⟩ : ByteArray) = ⟨G.toArray⟩ := by rw [str_app, hG]
                have hTG : wordG (⟨1, sp, sa, sb⟩, m) = G := by rw [wordG, if_pos (by simp only; omega), HTT.out, hD, hG]
                have HTG := Lib.hid hTG
                have dl : D.length ≤ 20 := by rw [← hD]; exact dec_len m
                clear hD hG hTG
                go_wp2_with (first
                  | (go_at_call 76; go_loud (((with_reducible refine (HWC.out _ (HG.out.ext (HE3.out.trans (by repeat (first | exact Ext.refl _ | assumption | refine Ext.alloc ?_ _ | refine Ext.drew ?_ | refine Ext.drewN ?_ _ | refine Ext.trans ?_ (by assumption)))))).mono ?_); rintro e w5 ⟨rfl, hq5⟩; have HE5 := Lib.hid (HEX.out _ (Ext.trans (by repeat (first | exact Ext.refl _ | assumption | refine Ext.alloc ?_ _ | refine Ext.drew ?_ | refine Ext.drewN ?_ _ | refine Ext.trans ?_ (by assumption))) hq5)).1; have HX5 := Lib.hid (HEX.out _ (Ext.trans (by repeat (first | exact Ext.refl _ | assumption | refine Ext.alloc ?_ _ | refine Ext.drew ?_ | refine Ext.drewN ?_ _ | refine Ext.trans ?_ (by assumption))) hq5)).2; clear hq5)))
                  | (go_at_call 30; go_loud (((with_reducible refine (HIC.out _ (HG.out.ext (HE5.out.trans (by repeat (first | exact Ext.refl _ | assumption | refine Ext.alloc ?_ _ | refine Ext.drew ?_ | refine Ext.drewN ?_ _ | refine Ext.trans ?_ (by assumption)))))).mono ?_); rintro e w7 ⟨rfl, hq7⟩; have HE7 := Lib.hid (HE5.out.trans (Ext.trans (show Ext w5 _ by repeat (first | exact Ext.refl _ | assumption | refine Ext.alloc ?_ _ | refine Ext.drew ?_ | refine Ext.drewN ?_ _ | refine Ext.trans ?_ (by assumption))) hq7)); have HX7 := Lib.hid (HX5.out.trans (Ext.trans (show Ext w5 _ by repeat (first | exact Ext.refl _ | assumption | refine Ext.alloc ?_ _ | refine Ext.drew ?_ | refine Ext.drewN ?_ _ | refine Ext.trans ?_ (by assumption))) hq7)); clear hq7)))
                  | (at_builtin; go_loud (refine wpList_append_vecsB (S := shStr) (w := w) (m := 1) (xs := [G]) 58 9 (.string ⟨#[]⟩) 16 (by rfl) (by rfl) Tryz.underlying58 info_str (by rfl) (by omega) (by rfl) (by rfl) (OwnV.ext HV.out (HX7.out.trans (by repeat (first | exact Ext.refl _ | assumption | refine Ext.alloc ?_ _ | refine Ext.drew ?_ | refine Ext.drewN ?_ _ | refine Ext.trans ?_ (by assumption))))) (HE7.out.trans (by repeat (first | exact Ext.refl _ | assumption | refine Ext.alloc ?_ _ | refine Ext.drew ?_ | refine Ext.drewN ?_ _ | refine Ext.trans ?_ (by assumption)))) (Vec.lit2 (by simp) rfl rfl) (by omega) ?_; intro v' w6 hown6 hext6 hgr6)))
                have HN := Lib.hid hown6
                have HF := Lib.hid (show (ws ++ [G]) ++ (grp (l.drop (k + m))).map wordG = (grp l).map wordG by
                  rw [← HT.out, HQ.out, List.map_cons, HTG.out]
                  simp)
                clear hown6 hgr6
                go_roundw
                case rel => exact ⟨v', k + m, j + 1, ws ++ [G], rfl, by go_num, by omega, by omega, HN, hext6, HF⟩
                case measure => simp [intOf]; omega
          · have i1 := IntWalk.i64_in ((k : Int) + (m : Int)) (by omega)
            have q3 : decide ((k : Int) + (m : Int) < (n : Int)) = false := by simp; omega
            subst hk1
            go_wp2_with fail
            go_quiet (fail)
            go_wp2_with fail
            have HQ := Lib.hid (show grp (l.drop k) = (⟨1, sp, sa, sb⟩, m) :: grp (l.drop (k + m)) by
              have h9 := grp_run m (l.drop k) ⟨1, sp, sa, sb⟩ hm1 (by rw [List.length_drop, HL.out]; omega) (fun t ht => by rw [← HA.out t ht]; simp [List.getD_eq_getElem?_getD]) (.inr rfl) (.inr (.inl (by rw [List.length_drop, HL.out]; omega)))
              rw [h9, List.drop_drop])
            by_cases hm : m = 1
            · subst hm
              go_wp2_with (first
                | (go_at_call 76; go_loud (((with_reducible refine (HWC.out _ (HG.out.ext (HE3.out.trans (by repeat (first | exact Ext.refl _ | assumption | refine Ext.alloc ?_ _ | refine Ext.drew ?_ | refine Ext.drewN ?_ _ | refine Ext.trans ?_ (by assumption)))))).mono ?_); rintro e w5 ⟨rfl, hq5⟩; have HE5 := Lib.hid (HEX.out _ (Ext.trans (by repeat (first | exact Ext.refl _ | assumption | refine Ext.alloc ?_ _ | refine Ext.drew ?_ | refine Ext.drewN ?_ _ | refine Ext.trans ?_ (by assumption))) hq5)).1; have HX5 := Lib.hid (HEX.out _ (Ext.trans (by repeat (first | exact Ext.refl _ | assumption | refine Ext.alloc ?_ _ | refine Ext.drew ?_ | refine Ext.drewN ?_ _ | refine Ext.trans ?_ (by assumption))) hq5)).2; clear hq5)))
                | (at_builtin; go_loud (refine wpList_append_vecsB (S := shStr) (w := w) (m := 1) (xs := [T]) 58 9 (.string ⟨#[]⟩) 16 (by rfl) (by rfl) Tryz.underlying58 info_str (by rfl) (by omega) (by rfl) (by rfl) (OwnV.ext HV.out (HX5.out.trans (by repeat (first | exact Ext.refl _ | assumption | refine Ext.alloc ?_ _ | refine Ext.drew ?_ | refine Ext.drewN ?_ _ | refine Ext.trans ?_ (by assumption))))) (HE5.out.trans (by repeat (first | exact Ext.refl _ | assumption | refine Ext.alloc ?_ _ | refine Ext.drew ?_ | refine Ext.drewN ?_ _ | refine Ext.trans ?_ (by assumption)))) (Vec.lit2 (by simp) rfl rfl) (by omega) ?_; intro v' w6 hown6 hext6 hgr6)))
              have HN := Lib.hid hown6
              have HF := Lib.hid (show (ws ++ [T]) ++ (grp (l.drop (k + 1))).map wordG = (grp l).map wordG by
                rw [← HT.out, HQ.out, ← HTG1.out]
                simp)
              clear hown6 hgr6
              go_roundw
              case rel => exact ⟨v', k + 1, j + 1, ws ++ [T], rfl, by go_num, by omega, by omega, HN, hext6, HF⟩
              case measure => simp [intOf]; omega
            · have hm9 : (1 : Int) < (m : Int) := by omega
              obtain ⟨D, hD⟩ : ∃ D, decD m = D := ⟨_, rfl⟩
              obtain ⟨G, hG⟩ : ∃ G, T ++ D = G := ⟨_, rfl⟩
              have HIC := Lib.hid (show ∀ w', Glob w' → Calls Tryz.prog 30 #[.int .i64 (m : Int)] w' fun e w'' => e = .returned (.string ⟨D.toArray⟩) ∧ Ext w' w'' from fun w' hg => by
                have h9 := itoa_any (m : Int) (by omega) (by omega) w' hg
                rw [Int.toNat_natCast, hD] at h9
                exact h9)
              have hcat : (⟨T.toArray⟩ ++ ⟨D.toArray⟩ : ByteArray) = ⟨G.toArray⟩ := by rw [str_app, hG]
              have hTG : wordG (⟨1, sp, sa, sb⟩, m) = G := by rw [wordG, if_pos (by simp only; omega), HTT.out, hD, hG]
              have HTG := Lib.hid hTG
              have dl : D.length ≤ 20 := by rw [← hD]; exact dec_len m
              clear hD hG hTG
              go_wp2_with (first
                | (go_at_call 76; go_loud (((with_reducible refine (HWC.out _ (HG.out.ext (HE3.out.trans (by repeat (first | exact Ext.refl _ | assumption | refine Ext.alloc ?_ _ | refine Ext.drew ?_ | refine Ext.drewN ?_ _ | refine Ext.trans ?_ (by assumption)))))).mono ?_); rintro e w5 ⟨rfl, hq5⟩; have HE5 := Lib.hid (HEX.out _ (Ext.trans (by repeat (first | exact Ext.refl _ | assumption | refine Ext.alloc ?_ _ | refine Ext.drew ?_ | refine Ext.drewN ?_ _ | refine Ext.trans ?_ (by assumption))) hq5)).1; have HX5 := Lib.hid (HEX.out _ (Ext.trans (by repeat (first | exact Ext.refl _ | assumption | refine Ext.alloc ?_ _ | refine Ext.drew ?_ | refine Ext.drewN ?_ _ | refine Ext.trans ?_ (by assumption))) hq5)).2; clear hq5)))
                | (go_at_call 30; go_loud (((with_reducible refine (HIC.out _ (HG.out.ext (HE5.out.trans (by repeat (first | exact Ext.refl _ | assumption | refine Ext.alloc ?_ _ | refine Ext.drew ?_ | refine Ext.drewN ?_ _ | refine Ext.trans ?_ (by assumption)))))).mono ?_); rintro e w7 ⟨rfl, hq7⟩; have HE7 := Lib.hid (HE5.out.trans (Ext.trans (show Ext w5 _ by repeat (first | exact Ext.refl _ | assumption | refine Ext.alloc ?_ _ | refine Ext.drew ?_ | refine Ext.drewN ?_ _ | refine Ext.trans ?_ (by assumption))) hq7)); have HX7 := Lib.hid (HX5.out.trans (Ext.trans (show Ext w5 _ by repeat (first | exact Ext.refl _ | assumption | refine Ext.alloc ?_ _ | refine Ext.drew ?_ | refine Ext.drewN ?_ _ | refine Ext.trans ?_ (by assumption))) hq7)); clear hq7)))
                | (at_builtin; go_loud (refine wpList_append_vecsB (S := shStr) (w := w) (m := 1) (xs := [G]) 58 9 (.string ⟨#[]⟩) 16 (by rfl) (by rfl) Tryz.underlying58 info_str (by rfl) (by omega) (by rfl) (by rfl) (OwnV.ext HV.out (HX7.out.trans (by repeat (first | exact Ext.refl _ | assumption | refine Ext.alloc ?_ _ | refine Ext.drew ?_ | refine Ext.drewN ?_ _ | refine Ext.trans ?_ (by assumption))))) (HE7.out.trans (by repeat (first | exact Ext.refl _ | assumption | refine Ext.alloc ?_ _ | refine Ext.drew ?_ | refine Ext.drewN ?_ _ | refine Ext.trans ?_ (by assumption)))) (Vec.lit2 (by simp) rfl rfl) (by omega) ?_; intro v' w6 hown6 hext6 hgr6)))
              have HN := Lib.hid hown6
              have HF := Lib.hid (show (ws ++ [G]) ++ (grp (l.drop (k + m))).map wordG = (grp l).map wordG by
                rw [← HT.out, HQ.out, List.map_cons, HTG.out]
                simp)
              clear hown6 hgr6
              go_roundw
              case rel => exact ⟨v', k + m, j + 1, ws ++ [G], rfl, by go_num, by omega, by omega, HN, hext6, HF⟩
              case measure => simp [intOf]; omega
        · have hk2 : (sk == 1) = false := by simpa using hk1
          have HK := Lib.hid hk1
          obtain rfl : m = 1 := by rcases hm3.out with h | h
                                   · exact h
                                   · exact absurd h hk1
          clear hk1
          go_wp2_with fail
          go_quiet (fail)
          go_wp2_with fail
          have HQ := Lib.hid (show grp (l.drop k) = (⟨sk, sp, sa, sb⟩, 1) :: grp (l.drop (k + 1)) by
            have h9 := grp_run 1 (l.drop k) ⟨sk, sp, sa, sb⟩ hm1 (by rw [List.length_drop, HL.out]; omega) (fun t ht => by rw [← HA.out t ht]; simp [List.getD_eq_getElem?_getD]) (.inl rfl) (.inl HK.out)
            rw [h9, List.drop_drop])
          go_wp2_with (first
            | (go_at_call 76; go_loud (((with_reducible refine (HWC.out _ (HG.out.ext (HE3.out.trans (by repeat (first | exact Ext.refl _ | assumption | refine Ext.alloc ?_ _ | refine Ext.drew ?_ | refine Ext.drewN ?_ _ | refine Ext.trans ?_ (by assumption)))))).mono ?_); rintro e w5 ⟨rfl, hq5⟩; have HE5 := Lib.hid (HEX.out _ (Ext.trans (by repeat (first | exact Ext.refl _ | assumption | refine Ext.alloc ?_ _ | refine Ext.drew ?_ | refine Ext.drewN ?_ _ | refine Ext.trans ?_ (by assumption))) hq5)).1; have HX5 := Lib.hid (HEX.out _ (Ext.trans (by repeat (first | exact Ext.refl _ | assumption | refine Ext.alloc ?_ _ | refine Ext.drew ?_ | refine Ext.drewN ?_ _ | refine Ext.trans ?_ (by assumption))) hq5)).2; clear hq5)))
            | (at_builtin; go_loud (refine wpList_append_vecsB (S := shStr) (w := w) (m := 1) (xs := [T]) 58 9 (.string ⟨#[]⟩) 16 (by rfl) (by rfl) Tryz.underlying58 info_str (by rfl) (by omega) (by rfl) (by rfl) (OwnV.ext HV.out (HX5.out.trans (by repeat (first | exact Ext.refl _ | assumption | refine Ext.alloc ?_ _ | refine Ext.drew ?_ | refine Ext.drewN ?_ _ | refine Ext.trans ?_ (by assumption))))) (HE5.out.trans (by repeat (first | exact Ext.refl _ | assumption | refine Ext.alloc ?_ _ | refine Ext.drew ?_ | refine Ext.drewN ?_ _ | refine Ext.trans ?_ (by assumption)))) (Vec.lit2 (by simp) rfl rfl) (by omega) ?_; intro v' w6 hown6 hext6 hgr6)))
          have HN := Lib.hid hown6
          have HF := Lib.hid (show (ws ++ [T]) ++ (grp (l.drop (k + 1))).map wordG = (grp l).map wordG by
            rw [← HT.out, HQ.out, ← HTG1.out]
            simp)
          clear hown6 hgr6
          go_roundw
          case rel => exact ⟨v', k + 1, j + 1, ws ++ [T], rfl, by go_num, by omega, by omega, HN, hext6, HF⟩
          case measure => simp [intOf]; omega
    · obtain rfl : k = n := by omega
      have HV0 := Lib.hid (show ws = (grp l).map wordG by
        have h9 := HT.out
        rw [List.drop_of_length_le (Nat.le_of_eq HL.out)] at h9
        simpa [grp] using h9)
      obtain ⟨A9, c9, rfl, hv9, -⟩ := own_vecB HV.out
      go_wp2_with (go_at_call 77; ((with_reducible refine (join_any w.heap.size j c9 A9 ws 32 9 _ (OwnV.ext HV.out (by repeat (first | exact Ext.refl _ | assumption | refine Ext.alloc ?_ _ | refine Ext.drew ?_ | refine Ext.drewN ?_ _ | refine Ext.trans ?_ (by assumption)))) (by rw [HV0.out]; exact HW.out) (by omega)).mono ?_); rintro e w8 ⟨rfl, hq8⟩))
      go_ret
      exact ⟨by rw [HV0.out]; rfl, by repeat (first | exact Ext.refl _ | assumption | refine Ext.alloc ?_ _ | refine Ext.drew ?_ | refine Ext.drewN ?_ _ | refine Ext.trans ?_ (by assumption))⟩
end Go.Proofs.YtjjhoonkooihjaaGreatDoor
