/- Words: the program's and the reference's. -/
import Derived.Test.YtfhecgipfhhchaaPtM
namespace Go.Proofs.Ytfhecgipfhhchaa
set_option maxRecDepth 100000
set_option maxRecDepth 100000
open Go.RowKit
theorem str_at (l : List UInt8) (k : Nat) (h : k < (⟨l.toArray⟩ : ByteArray).size) : (⟨l.toArray⟩ : ByteArray)[k] = l.getD k 0 := by
  have h2 : k < l.length := by simpa [ByteArray.size] using h
  rw [List.getD_eq_getElem?_getD, List.getElem?_eq_getElem h2]
  rfl
set_option maxHeartbeats 4000000 in
theorem word_any (s : List UInt8) (hs : s.length ≤ 100000) (w : World) : Calls Try.prog 20 #[.string ⟨s.toArray⟩] w fun e w' => e = .returned (.bool (wordS s)) ∧ Ext w w' := by
  by_cases h0 : s.length = 0
  · have HN := Lib.hid (word_len (s := s) (.inl h0))
    have q1 : ((s.length : Int) == 0) = true := by simp [h0]
    clear h0
    go_enter Try.func20, Try.ntmps20
    go_wp2_with fail
    go_ret
    exact ⟨by rw [HN.out]; rfl, Ext.refl _⟩
  have q1 : ((s.length : Int) == 0) = false := by rw [beq_eq_false_iff_ne]; omega
  by_cases h4 : 40 < s.length
  · have HN := Lib.hid (word_len (s := s) (.inr h4))
    have q2 : (40 : Int) < (s.length : Int) := by omega
    clear h0
    go_enter Try.func20, Try.ntmps20
    go_wp2_with fail
    go_ret
    exact ⟨by rw [HN.out]; rfl, Ext.refl _⟩
  have q2 : ¬ ((40 : Int) < (s.length : Int)) := by omega
  have hl1 : 1 ≤ s.length := by omega
  clear h0
  go_enter Try.func20, Try.ntmps20
  go_wp2_with fail
  go_loopw [3] (fun i wr => ∃ k : Nat, i = .int .i64 (k : Int) ∧ k ≤ s.length ∧ Hid (∀ j, j < k → okC (s.getD j 0) = true) ∧ Hid (Ext w wr)) (fun i _ => s.length - (intOf i).toNat)
  case atStart => exact ⟨0, rfl, Nat.zero_le _, Lib.hid (fun j hj => absurd hj (by omega)), Lib.hid (Ext.refl _)⟩
  case round =>
    obtain ⟨k, rfl, hk, HA, HE⟩ := hrel
    have q0 : (0 : Int) ≤ (k : Int) := by omega
    by_cases hlt : k < s.length
    · have q1 : (k : Int) < (s.length : Int) := by omega
      have h5 := str_at s k
      obtain ⟨x, hx⟩ : ∃ x, s.getD k 0 = x := ⟨_, rfl⟩
      rw [hx] at h5
      have HX := Lib.hid hx
      clear hx
      by_cases hc : x.toNat = 45 ∨ (97 ≤ x.toNat ∧ x.toNat ≤ 122) ∨ (48 ≤ x.toNat ∧ x.toNat ≤ 57)
      · have HN := Lib.hid (show ∀ j, j < k + 1 → okC (s.getD j 0) = true from fun j hj => by
          by_cases e : j = k
          · subst e; rw [HX.out]; exact decide_eq_true hc
          · exact HA.out j (by omega))
        rcases hc with hc | hc | hc
        · have b1 : ((x.toNat : Int) != 45) = false := by rw [bne_eq_false_iff_eq]; omega
          clear hc
          go_wp2_with fail
          go_roundw
          case rel => exact ⟨k + 1, by go_num, by omega, HN, HE⟩
          case measure => simp [intOf] <;> omega
        · have b1 : ((x.toNat : Int) != 45) = true := by rw [bne_iff_ne]; omega
          have b2 : ¬ ((x.toNat : Int) < 97) := by omega
          have b3 : ¬ ((122 : Int) < (x.toNat : Int)) := by omega
          clear hc
          go_wp2_with fail
          go_roundw
          case rel => exact ⟨k + 1, by go_num, by omega, HN, HE⟩
          case measure => simp [intOf] <;> omega
        · have b1 : ((x.toNat : Int) != 45) = true := by rw [bne_iff_ne]; omega
          have b2 : (x.toNat : Int) < 97 := by omega
          have b4 : ¬ ((x.toNat : Int) < 48) := by omega
          have b5 : ¬ ((57 : Int) < (x.toNat : Int)) := by omega
          clear hc
          go_wp2_with fail
          go_roundw
          case rel => exact ⟨k + 1, by go_num, by omega, HN, HE⟩
          case measure => simp [intOf] <;> omega
      · have HN := Lib.hid (word_bad hlt (show okC (s.getD k 0) = false by rw [HX.out]; exact decide_eq_false hc))
        have hcc : (x.toNat < 48 ∧ x.toNat ≠ 45) ∨ (57 < x.toNat ∧ x.toNat < 97) ∨ 122 < x.toNat := by omega
        clear hc
        rcases hcc with hc | hc | hc
        · have b1 : ((x.toNat : Int) != 45) = true := by rw [bne_iff_ne]; omega
          have b2 : (x.toNat : Int) < 97 := by omega
          have b4 : (x.toNat : Int) < 48 := by omega
          clear hc
          go_wp2_with fail
          go_ret
          exact ⟨by rw [HN.out]; rfl, HE.out⟩
        · have b1 : ((x.toNat : Int) != 45) = true := by rw [bne_iff_ne]; omega
          have b2 : (x.toNat : Int) < 97 := by omega
          have b4 : ¬ ((x.toNat : Int) < 48) := by omega
          have b5 : (57 : Int) < (x.toNat : Int) := by omega
          clear hc
          go_wp2_with fail
          go_ret
          exact ⟨by rw [HN.out]; rfl, HE.out⟩
        · have b1 : ((x.toNat : Int) != 45) = true := by rw [bne_iff_ne]; omega
          have b2 : ¬ ((x.toNat : Int) < 97) := by omega
          have b3 : (122 : Int) < (x.toNat : Int) := by omega
          have b4 : ¬ ((x.toNat : Int) < 48) := by omega
          have b5 : (57 : Int) < (x.toNat : Int) := by omega
          clear hc
          go_wp2_with fail
          go_ret
          exact ⟨by rw [HN.out]; rfl, HE.out⟩
    · obtain rfl : k = s.length := by omega
      have HN := Lib.hid (word_yes ⟨hl1, by omega⟩ HA.out)
      go_wp2_with fail
      go_ret
      exact ⟨by rw [HN.out]; rfl, HE.out⟩
set_option maxHeartbeats 4000000 in
theorem rword_any (s : List UInt8) (hs : s.length ≤ 100000) (w : World) : Calls Try.prog 31 #[.string ⟨s.toArray⟩] w fun e w' => e = .returned (.bool (wordS s)) ∧ Ext w w' := by
  go_enter Try.func31, Try.ntmps31
  go_wp2_with fail
  go_loopw [3] (fun i wr => ∃ k : Nat, i = .int .i64 (k : Int) ∧ k ≤ s.length ∧ Hid (∀ j, j < k → okC (s.getD j 0) = true) ∧ Hid (Ext w wr)) (fun i _ => s.length - (intOf i).toNat)
  case atStart => exact ⟨0, rfl, Nat.zero_le _, Lib.hid (fun j hj => absurd hj (by omega)), Lib.hid (Ext.refl _)⟩
  case round =>
    obtain ⟨k, rfl, hk, HA, HE⟩ := hrel
    have q0 : (0 : Int) ≤ (k : Int) := by omega
    by_cases hlt : k < s.length
    · have q1 : (k : Int) < (s.length : Int) := by omega
      have h5 := str_at s k
      obtain ⟨x, hx⟩ : ∃ x, s.getD k 0 = x := ⟨_, rfl⟩
      rw [hx] at h5
      have HX := Lib.hid hx
      clear hx
      by_cases hc : x.toNat = 45 ∨ (97 ≤ x.toNat ∧ x.toNat ≤ 122) ∨ (48 ≤ x.toNat ∧ x.toNat ≤ 57)
      · have HN := Lib.hid (show ∀ j, j < k + 1 → okC (s.getD j 0) = true from fun j hj => by
          by_cases e : j = k
          · subst e; rw [HX.out]; exact decide_eq_true hc
          · exact HA.out j (by omega))
        rcases hc with hc | hc | hc
        · have b1 : ((x.toNat : Int) != 45) = false := by rw [bne_eq_false_iff_eq]; omega
          clear hc
          go_wp2_with fail
          go_roundw
          case rel => exact ⟨k + 1, by go_num, by omega, HN, HE⟩
          case measure => simp [intOf] <;> omega
        · have b1 : ((x.toNat : Int) != 45) = true := by rw [bne_iff_ne]; omega
          have b2 : ¬ ((x.toNat : Int) < 97) := by omega
          have b3 : ¬ ((122 : Int) < (x.toNat : Int)) := by omega
          clear hc
          go_wp2_with fail
          go_roundw
          case rel => exact ⟨k + 1, by go_num, by omega, HN, HE⟩
          case measure => simp [intOf] <;> omega
        · have b1 : ((x.toNat : Int) != 45) = true := by rw [bne_iff_ne]; omega
          have b2 : (x.toNat : Int) < 97 := by omega
          have b4 : ¬ ((x.toNat : Int) < 48) := by omega
          have b5 : ¬ ((57 : Int) < (x.toNat : Int)) := by omega
          clear hc
          go_wp2_with fail
          go_roundw
          case rel => exact ⟨k + 1, by go_num, by omega, HN, HE⟩
          case measure => simp [intOf] <;> omega
      · have HN := Lib.hid (word_bad hlt (show okC (s.getD k 0) = false by rw [HX.out]; exact decide_eq_false hc))
        have hcc : (x.toNat < 48 ∧ x.toNat ≠ 45) ∨ (57 < x.toNat ∧ x.toNat < 97) ∨ 122 < x.toNat := by omega
        clear hc
        rcases hcc with hc | hc | hc
        · have b1 : ((x.toNat : Int) != 45) = true := by rw [bne_iff_ne]; omega
          have b2 : (x.toNat : Int) < 97 := by omega
          have b4 : (x.toNat : Int) < 48 := by omega
          clear hc
          go_wp2_with fail
          go_ret
          exact ⟨by rw [HN.out]; rfl, HE.out⟩
        · have b1 : ((x.toNat : Int) != 45) = true := by rw [bne_iff_ne]; omega
          have b2 : (x.toNat : Int) < 97 := by omega
          have b4 : ¬ ((x.toNat : Int) < 48) := by omega
          have b5 : (57 : Int) < (x.toNat : Int) := by omega
          clear hc
          go_wp2_with fail
          go_ret
          exact ⟨by rw [HN.out]; rfl, HE.out⟩
        · have b1 : ((x.toNat : Int) != 45) = true := by rw [bne_iff_ne]; omega
          have b2 : ¬ ((x.toNat : Int) < 97) := by omega
          have b3 : (122 : Int) < (x.toNat : Int) := by omega
          have b4 : ¬ ((x.toNat : Int) < 48) := by omega
          have b5 : (57 : Int) < (x.toNat : Int) := by omega
          clear hc
          go_wp2_with fail
          go_ret
          exact ⟨by rw [HN.out]; rfl, HE.out⟩
    · obtain rfl : k = s.length := by omega
      by_cases h0 : s.length = 0
      · have HN := Lib.hid (word_len (s := s) (.inl h0))
        have q1 : ¬ ((1 : Int) ≤ (s.length : Int)) := by omega
        clear h0
        go_wp2_with fail
        go_ret
        exact ⟨by rw [HN.out]; rfl, HE.out⟩
      · have q1 : (1 : Int) ≤ (s.length : Int) := by omega
        by_cases h4 : 40 < s.length
        · have HN := Lib.hid (word_len (s := s) (.inr h4))
          have q2 : ¬ ((s.length : Int) ≤ 40) := by omega
          clear h0
          go_wp2_with fail
          go_ret
          exact ⟨by rw [HN.out]; rfl, HE.out⟩
        · have HN := Lib.hid (word_yes ⟨by omega, by omega⟩ HA.out)
          have q2 : (s.length : Int) ≤ 40 := by omega
          clear h0
          go_wp2_with fail
          go_ret
          exact ⟨by rw [HN.out]; rfl, HE.out⟩
end Go.Proofs.Ytfhecgipfhhchaa
