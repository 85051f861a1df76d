/- The other side of a stitch and of a list of stitches, in plain Lean. -/
import Derived.Test.YtpcefmopoceiiaaGreatDoorStitchP
namespace Go.Proofs.YtpcefmopoceiiaaGreatDoor
set_option maxRecDepth 100000
/-- the other side -/
def otherSt (s : St) : St := ⟨s.k, fsd s.k && !s.p, if s.k = 6 ∨ s.k = 7 then s.b else s.a, if s.k = 6 ∨ s.k = 7 then s.a else s.b⟩
def turnL (l : List St) : List St := (l.reverse).map otherSt
theorem turnL_app (a b : List St) : turnL (a ++ b) = turnL b ++ turnL a := by simp [turnL]
theorem turnL_len (l : List St) : (turnL l).length = l.length := by simp [turnL]
theorem okSt_low {s : St} (h : okSt s = true) (hk : s.k = 2 ∨ s.k = 9) : s.p = false := by
  have h4 := (ok_e h).2.2.2
  have : fsd s.k = false := by rcases hk with e | e <;> rw [e] <;> decide
  rw [this] at h4
  simpa using h4
theorem turnL_cons (s : St) (l : List St) : turnL (s :: l) = turnL l ++ [otherSt s] := by simp [turnL]
theorem turnL_drop {l : List St} {k : Nat} (h : k < l.length) : turnL (l.drop k) = turnL (l.drop (k + 1)) ++ [otherSt (l.getD k st0)] := by
  rw [← turnL_cons]
  congr 1
  rw [List.getD_eq_getElem?_getD, List.getElem?_eq_getElem h]
  exact List.drop_eq_getElem_cons h
end Go.Proofs.YtpcefmopoceiiaaGreatDoor
