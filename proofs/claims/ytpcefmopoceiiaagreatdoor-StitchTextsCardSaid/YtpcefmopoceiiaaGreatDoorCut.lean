/- The reference's Cut, Number and kind. -/
import Derived.Test.YtpcefmopoceiiaaGreatDoorLibC
import Derived.Test.YtpcefmopoceiiaaGreatDoorApp
import Derived.Test.YtpcefmopoceiiaaGreatDoorStitchV
namespace Go.Proofs.YtpcefmopoceiiaaGreatDoor
set_option maxRecDepth 100000
set_option maxRecDepth 100000
open Go.RowKit
theorem str_mid (l : List UInt8) (f k : Nat) : (⟨l.toArray⟩ : ByteArray).extract f k = ⟨((l.drop f).take (k - f)).toArray⟩ := by
  apply ByteArray.ext
  apply Array.toList_inj.1
  rw [Lib.extract_data]
theorem spl_last {c : UInt8} {l : List UInt8} {f : Nat} (h : c ∉ (l.drop f).take (l.length - f)) : spl c (l.drop f) = [(l.drop f).take (l.length - f)] := by
  have e : (l.drop f).take (l.length - f) = l.drop f := List.take_of_length_le (by simp)
  rw [e] at h ⊢
  exact spl_word h
theorem spl_at {c : UInt8} {l : List UInt8} {f k : Nat} (hf : f ≤ k) (hk : k < l.length) (h : c ∉ (l.drop f).take (k - f)) (hc : l.getD k 0 = c) : spl c (l.drop f) = (l.drop f).take (k - f) :: spl c (l.drop (k + 1)) := by
  have e : l.drop f = (l.drop f).take (k - f) ++ c :: l.drop (k + 1) := by
    conv => lhs; rw [← List.take_append_drop (k - f) (l.drop f)]
    rw [List.drop_drop, show f + (k - f) = k by omega, List.drop_eq_getElem_cons hk]
    rw [List.getD_eq_getElem?_getD, List.getElem?_eq_getElem hk] at hc
    have hc : l[k] = c := hc
    rw [hc]
  conv => lhs; rw [e]
  rw [spl_cons h]
theorem take_next {c : UInt8} {l : List UInt8} {f k : Nat} (hf : f ≤ k) (hk : k < l.length) (h : c ∉ (l.drop f).take (k - f)) (hc : ¬ l.getD k 0 = c) : c ∉ (l.drop f).take (k + 1 - f) := by
  rw [show k + 1 - f = (k - f) + 1 by omega, List.take_add_one]
  intro h9
  rcases List.mem_append.1 h9 with h9 | h9
  · exact h h9
  · rw [List.getElem?_drop, show f + (k - f) = k by omega, List.getElem?_eq_getElem hk] at h9
    apply hc
    rw [List.getD_eq_getElem?_getD, List.getElem?_eq_getElem hk]
    simp at h9
    exact h9.symm
/-- how far Cut has come -/
structure CutAt (c : UInt8) (l : List UInt8) (k f : Nat) (ws : List (List UInt8)) : Prop where
  mid : k ≤ l.length → f ≤ k ∧ ws ++ spl c (l.drop f) = spl c l ∧ c ∉ (l.drop f).take (k - f)
  fin : k = l.length + 1 → ws = spl c l
set_option maxHeartbeats 4000000 in
theorem cut_any (c : UInt8) (l : List UInt8) (hl : l.length ≤ 100000) (w : World) :
    Calls Tryz.prog 23 #[.string ⟨l.toArray⟩, .int .u8 (c.toNat : Int)] w fun e w' => ∃ v, e = .returned v ∧ OwnV shStr w' w.heap.size 9 v (spl c l).length (spl c l) ∧ Ext w w' := by
  have hx := fun f k => str_mid l f k
  go_enter Tryz.func23, Tryz.ntmps23
  go_wp2_with fail
  go_loopw [5, 6, 7] (fun u i j wr => ∃ (V : Value) (f k m : Nat) (ws : List (List UInt8)), V = u ∧ i = .int .i64 f ∧ j = .int .i64 k ∧ k ≤ l.length + 1 ∧ f ≤ k ∧ m ≤ k ∧ Hid (OwnV shStr wr w.heap.size 9 V m ws) ∧ Hid (CutAt c l k f ws) ∧ Hid (Ext w wr)) (fun _ _ j _ => l.length + 1 - (intOf j).toNat)
  case atStart => exact ⟨_, 0, 0, 0, [], rfl, rfl, rfl, by omega, by omega, by omega, Lib.hid (OwnV.nil _ _ _ _), Lib.hid ⟨fun _ => ⟨by omega, rfl, by simp⟩, fun h => by omega⟩, Lib.hid (Ext.refl _)⟩
  case round =>
    obtain ⟨V, f, k, m, ws, rfl, rfl, rfl, hk, hfk, hmk, HV, HC, HE⟩ := hrel
    have q0 : (0 : Int) ≤ (f : Int) := by omega
    have q1 : (f : Int) ≤ (k : Int) := by omega
    have q9 : (0 : Int) ≤ (k : Int) := by omega
    by_cases h1 : k = l.length + 1
    · subst h1
      have HF := Lib.hid (HC.out.fin rfl)
      obtain rfl : m = ws.length := (OwnV.len HV.out).symm
      have hno : ¬ ((l.length : Int) + 1 ≤ (l.length : Int)) := by omega
      go_wp2_with fail
      go_ret
      exact ⟨V, rfl, by rw [← HF.out]; exact HV.out, HE.out⟩
    · obtain ⟨hf, hm, hn⟩ := HC.out.mid (by omega)
      have q2 : (k : Int) ≤ (l.length : Int) := by omega
      by_cases h2 : k = l.length
      · subst h2
        have HL := Lib.hid (spl_last hn)
        rw [HL.out] at hm
        have HM := Lib.hid hm
        clear hm hn HC HL hf
        go_wp2_with (at_builtin; go_loud (refine wpList_append_vecsB (S := shStr) (w := w) (m := 1) (xs := [(l.drop f).take (l.length - f)]) 51 9 (.string ⟨#[]⟩) 16 (by rfl) (by rfl) Tryz.underlying51 info_str (by rfl) (by omega) (by rfl) (by rfl) (OwnV.ext HV.out (by repeat (first | exact Ext.refl _ | refine Ext.alloc ?_ _))) (HE.out.trans (by repeat (first | exact Ext.refl _ | refine Ext.alloc ?_ _))) (Vec.lit2 (by simp) rfl rfl) (by omega) ?_; intro v' w6 hown6 hext6 hgr6))
        have HN := Lib.hid hown6
        clear hown6 hgr6
        go_roundw
        case rel => exact ⟨v', l.length + 1, l.length + 1, m + 1, _, rfl, by go_num, by go_num, by omega, by omega, by omega, HN, Lib.hid ⟨fun h => by omega, fun _ => HM.out⟩, hext6⟩
        case measure => simp [intOf] <;> omega
      · have q3 : (k : Int) < (l.length : Int) := by omega
        have h5 := str_at l k
        have q7 : ((k : Int) == (l.length : Int)) = false := by rw [beq_eq_false_iff_ne]; omega
        by_cases hc : l.getD k 0 = c
        · have HL := Lib.hid (spl_at hf (by omega) hn hc)
          rw [HL.out] at hm
          have HM := Lib.hid hm
          rw [hc] at h5
          clear hm hn HC HL hf hc
          go_wp2_with (at_builtin; go_loud (refine wpList_append_vecsB (S := shStr) (w := w) (m := 1) (xs := [(l.drop f).take (k - f)]) 51 9 (.string ⟨#[]⟩) 16 (by rfl) (by rfl) Tryz.underlying51 info_str (by rfl) (by omega) (by rfl) (by rfl) (OwnV.ext HV.out (by repeat (first | exact Ext.refl _ | refine Ext.alloc ?_ _))) (HE.out.trans (by repeat (first | exact Ext.refl _ | refine Ext.alloc ?_ _))) (Vec.lit2 (by simp) rfl rfl) (by omega) ?_; intro v' w6 hown6 hext6 hgr6))
          have HN := Lib.hid hown6
          clear hown6 hgr6
          go_roundw
          case rel => exact ⟨v', k + 1, k + 1, m + 1, _, rfl, by go_num, by go_num, by omega, by omega, by omega, HN, Lib.hid ⟨fun h => ⟨by omega, by rw [List.append_assoc]; exact HM.out, by simp⟩, fun h => by omega⟩, hext6⟩
          case measure => simp [intOf] <;> omega
        · have hne : (((l.getD k 0).toNat : Int) == (c.toNat : Int)) = false := by rw [beq_eq_false_iff_ne]; exact fun h => hc (UInt8.toNat_inj.1 (by omega))
          have HN := Lib.hid (take_next hf (by omega) hn hc)
          have HM := Lib.hid hm
          generalize l.getD k 0 = d at *
          clear hm hn HC hc
          go_wp2_with fail
          go_roundw
          case rel => exact ⟨V, f, k + 1, m, ws, rfl, rfl, by go_num, by omega, by omega, by omega, HV, Lib.hid ⟨fun h => ⟨by omega, HM.out, HN.out⟩, fun h => by omega⟩, HE⟩
          case measure => simp [intOf] <;> omega
end Go.Proofs.YtpcefmopoceiiaaGreatDoor
