/- Join where the edges are valid, for the laws. -/
import Derived.Test.YtepegahgiciegaaSeamD
namespace Go.Proofs.Ytepegahgiciegaa
open Go.RowKit
theorem join_ok {a b : Int} (h : edOk a b = true) {m : Nat} (hm : max a b = m) (w : World) :
    Calls Try.prog 17 #[.int .i64 a, .int .i64 b] w fun e w' => ∃ A cap, e = .returned (.tuple #[.slice A m cap, .int .i64 0]) ∧ Vec shPair w' A m (joinL a b) ∧ Ext w w' := by
  have hl : (joinL a b).length = m := by have := join_len h; omega
  have := join_any a b w
  unfold PrsE at this
  rwa [hl, edB, if_pos h] at this
theorem join_bad {a b : Int} (h : edOk a b = false) (w : World) :
    Calls Try.prog 17 #[.int .i64 a, .int .i64 b] w fun e w' => ∃ A cap, e = .returned (.tuple #[.slice A 0 cap, .int .i64 2]) ∧ Ext w w' := by
  refine (join_any a b w).mono fun e w' ⟨A, cap, h1, _, h3⟩ => ⟨A, cap, ?_, h3⟩
  have h4 : joinL a b = [] := by rw [joinL, h]; rfl
  have h5 : edB a b = 2 := by rw [edB, h]; rfl
  rw [h4, h5] at h1
  exact h1
end Go.Proofs.Ytepegahgiciegaa
