/- The library's functions that the stitches' texts call, in the words of this claim. -/
import Derived.Test.YtpcefmopoceiiaaGreatDoorGlob
import Derived.Test.YtpcefmopoceiiaaGreatDoorLibS
import Derived.Test.YtpcefmopoceiiaaGreatDoorSts
import Derived.Lib.AtoiBound
import Derived.Lib.AppendIntMem
import Derived.Lib.AtoiErrMem
namespace Go.Proofs.YtpcefmopoceiiaaGreatDoor
set_option maxRecDepth 100000
open Go.RowKit
/-- the value of a string with these bytes -/
abbrev strV (l : List UInt8) : Value := .string ⟨l.toArray⟩
theorem str_data (l : List UInt8) : (⟨l.toArray⟩ : ByteArray).data.toList = l := by simp
theorem str_size (l : List UInt8) : (⟨l.toArray⟩ : ByteArray).size = l.length := by simp [ByteArray.size]
theorem str_app (a b : List UInt8) : (⟨a.toArray⟩ ++ ⟨b.toArray⟩ : ByteArray) = ⟨(a ++ b).toArray⟩ := by
  apply ByteArray.ext
  simp
theorem str_ext0 (l : List UInt8) (k : Nat) : (⟨l.toArray⟩ : ByteArray).extract 0 k = ⟨(l.take k).toArray⟩ := by
  apply ByteArray.ext
  apply Array.toList_inj.1
  rw [Lib.extract_from_zero]
theorem str_extD (l : List UInt8) (k n : Nat) (h : l.length ≤ n) : (⟨l.toArray⟩ : ByteArray).extract k n = ⟨(l.drop k).toArray⟩ := by
  apply ByteArray.ext
  apply Array.toList_inj.1
  rw [Lib.extract_data]
  exact List.take_of_length_le (by simp; omega)
theorem str_at (l : List UInt8) (k : Nat) (h : k < (⟨l.toArray⟩ : ByteArray).size) : (⟨l.toArray⟩ : ByteArray)[k] = l.getD k 0 := by
  have h2 : k < l.length := by simpa [ByteArray.size] using h
  rw [List.getD_eq_getElem?_getD, List.getElem?_eq_getElem h2]
  rfl
theorem itoa_any (n : Int) (h0 : 0 ≤ n) (h1 : n ≤ 1000000000000) (w : World) (hg : Glob w) :
    Calls Tryz.prog 33 #[.int .i64 n] w fun e w' => e = .returned (.string ⟨(decD n.toNat).toArray⟩) ∧ Ext w w' := by
  refine (Tryz.strconv_Itoa n (by omega) (by omega) w hg.tab).mono ?_
  rintro e w' ⟨rfl, k, os, rfl⟩
  exact ⟨by rw [itoa_lib h0 h1], Lib.below_grow _ _ (Nat.le_refl _) _ _⟩
/-- Atoi of some digits, or of none -/
theorem atoi_digits_any (l : List UInt8) (hl : l.length ≤ 4) (h : l.all isDg = true) (h0 : l ≠ []) (w : World) :
    Calls Tryz.prog 58 #[.string ⟨l.toArray⟩] w fun e w' => e = .returned (.tuple #[.int .i64 (valD l : Int), .nilIface]) ∧ Ext w w' := by
  refine (Tryz.strconv_Atoi ⟨l.toArray⟩ (valD l : Int) (by rw [str_size]; omega) (by rw [str_data]; exact atoi_digits h h0) w).mono ?_
  rintro e w' ⟨rfl, t, rfl⟩
  exact ⟨rfl, Lib.bytesWorld_below _ _ _⟩
theorem atoi_none_any (w : World) (hg : Glob w) :
    Calls Tryz.prog 58 #[.string ⟨#[]⟩] w fun e w' => (∃ te p, e = .returned (.tuple #[.int .i64 0, .iface te (.pointer (some p))])) ∧ Ext w w' := by
  obtain ⟨tp, p, hv⟩ := hg.syn
  refine (Tryz.strconv_Atoi_err_var ⟨#[]⟩ (by simp [ByteArray.size]) rfl tp p w hv).mono ?_
  rintro e w' ⟨N, rfl, _, _, hb⟩
  exact ⟨⟨_, _, rfl⟩, hb⟩
theorem atoi_e_any (w : World) (hg : Glob w) :
    Calls Tryz.prog 58 #[.string ByteArray.empty] w fun e w' => (∃ te p, e = .returned (.tuple #[.int .i64 0, .iface te (.pointer (some p))])) ∧ Ext w w' := atoi_none_any w hg
/-- a string as one cell -/
def shStr : Shp (List UInt8) where
  size := 1
  cells x := [.string ⟨x.toArray⟩]
  pos := by omega
  len _ := rfl
  one x u h := by
    simp at h
    subst h
    rfl
theorem info_str : (Tryz.prog.info? 9).map (fun i => (i.zero, i.size, i.bytes)) = some (some (.string ⟨#[]⟩), 1, 16) := by kernel_rfl
theorem split_any (l : List UInt8) (c : UInt8) (hl : l.length ≤ 100000) (w : World) (hg : Glob w) :
    Calls Tryz.prog 19 #[.string ⟨l.toArray⟩, .string ⟨#[c]⟩] w fun e w' => ∃ g n, e = .returned (.slice (some ⟨g, 0, none⟩) n n) ∧ Ext w w' ∧ Vec shStr w' (some ⟨g, 0, none⟩) n (spl c l) := by
  obtain ⟨m, hm⟩ := hg.max
  refine (Tryz.strings_Split ⟨l.toArray⟩ ⟨#[c]⟩ m w (by rw [str_size]; omega) hm (by simp [ByteArray.size])).mono ?_
  rintro e w' ⟨rfl, rfl⟩
  have hs := split_spl c ⟨l.toArray⟩
  rw [str_data] at hs
  have hlen : (spl c l).length = Lib.countB ⟨l.toArray⟩ ⟨#[c]⟩ + 1 := by
    rw [spl_count c _ l (Nat.le_refl _), Lib.countB, str_data]
  refine ⟨w.heap.size, _, rfl, (Ext.refl _).alloc _, hlen, fun _ => ⟨w.heap.size, 0, rfl, by simp, fun k x hx i u hu => ?_⟩⟩
  have hi : i = 0 := by
    rcases i with _ | i
    · rfl
    · simp [shStr] at hu
  subst hi
  have hu2 : u = .string ⟨x.toArray⟩ := by simp [shStr] at hu; exact hu.symm
  subst hu2
  have h1 : (w.alloc (.cells ((Lib.splitB ⟨#[c]⟩ 0 (Lib.countB ⟨l.toArray⟩ ⟨#[c]⟩) ⟨l.toArray⟩).map Value.string).toArray 9)).heap[w.heap.size]? = some (.cells ((Lib.splitB ⟨#[c]⟩ 0 (Lib.countB ⟨l.toArray⟩ ⟨#[c]⟩) ⟨l.toArray⟩).map Value.string).toArray 9) := heap_alloc_new w _
  rw [cell_of_row _ w.heap.size _ _ 9 (0, 0) h1]
  rw [← hs, List.getElem?_map] at hx
  obtain ⟨y, hy, rfl⟩ := Option.map_eq_some_iff.1 hx
  simp [hy, shStr]
theorem flat_str : ∀ (ws : List (List UInt8)), ws.flatMap shStr.cells = ws.map (fun l => Value.string ⟨l.toArray⟩) := by
  intro ws
  induction ws with
  | nil => rfl
  | cons x ws ih => rw [List.flatMap_cons, ih]; rfl
/-- strings.Join of a list that the call has made -/
theorem join_any (B n c : Nat) (A : Option Addr) (ws : List (List UInt8)) (d : UInt8) (e : TypeId) (w : World) (hv : OwnV shStr w B e (.slice A n c) n ws) (hl : (joinB d ws).length ≤ 100000000) (hws : n ≤ 100000000) :
    Calls Tryz.prog 34 #[.slice A n c, .string ⟨#[d]⟩] w fun e w' => e = .returned (.string ⟨(joinB d ws).toArray⟩) ∧ Ext w w' := by
  have hn : ws.length = n := OwnV.len hv
  rcases hv.2 with ⟨h0, h1⟩ | ⟨g, cap, cur, h0, hB, hg, hnc, hcm, hsz, hcur⟩
  · cases h0
    obtain rfl : ws = [] := List.eq_nil_of_length_eq_zero hn
    refine (Tryz.strings_Join_none none 0 ⟨#[d]⟩ w).mono ?_
    rintro e w' ⟨rfl, rfl⟩
    exact ⟨rfl, Ext.refl _⟩
  · cases h0
    have hx : (ws.map (fun l => (⟨l.toArray⟩ : ByteArray))).map (·.data.toList) = ws := by
      rw [List.map_map]
      conv => rhs; rw [← List.map_id ws]
      apply List.map_congr_left
      intro l _
      simp
    have hj : Lib.join ((ws.map (fun l => (⟨l.toArray⟩ : ByteArray))).map (·.data.toList)) (⟨#[d]⟩ : ByteArray).data.toList = joinB d ws := by
      rw [hx]
      exact join_lib d ws
    have h9 := Tryz.strings_Join g 0 c (ws.map (fun l => (⟨l.toArray⟩ : ByteArray))) ⟨#[d]⟩ w (fun j x hjx => ?_) (Array.getElem?_eq_some_iff.1 hg).1 (by rw [List.length_map]; omega) (by rw [List.length_map]; omega) (by rw [hj]; omega)
    · rw [List.length_map, hn] at h9
      refine h9.mono ?_
      rintro e w' ⟨rfl, hb⟩
      exact ⟨by rw [hj], hb⟩
    · rw [List.getElem?_map] at hjx
      obtain ⟨l, hl1, rfl⟩ := Option.map_eq_some_iff.1 hjx
      rw [cell_of_row _ g _ _ e (0, 0) hg]
      have h8 : (ws.flatMap shStr.cells)[j]? = some (.string ⟨l.toArray⟩) := by
        rw [flat_str, List.getElem?_map, hl1]
        rfl
      rw [← hcur, List.getElem?_take] at h8
      split at h8
      · rw [Nat.zero_add]
        simpa using h8
      · cases h8
end Go.Proofs.YtpcefmopoceiiaaGreatDoor
