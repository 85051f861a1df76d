/- What the reference reads of whatever word. -/
import Derived.Test.YtpcefmopoceiiaaGreatDoorWordK
import Derived.Test.YtpcefmopoceiiaaGreatDoorWordLa
import Derived.Test.YtpcefmopoceiiaaGreatDoorWordLb
import Derived.Test.YtpcefmopoceiiaaGreatDoorWordLc
import Derived.Test.YtpcefmopoceiiaaGreatDoorWordLd
namespace Go.Proofs.YtpcefmopoceiiaaGreatDoor
set_option maxRecDepth 100000
set_option maxRecDepth 100000
open Go.RowKit
theorem word_k_any (c : UInt8) (d : UInt8) (r : List UInt8) (hc : c = 107 ∨ c = 112) (hl : (d :: r).length ≤ 100000) (w : World) : Calls Tryz.prog 24 #[.string ⟨(c :: d :: r : List UInt8).toArray⟩] w (WordR (refWord (c :: d :: r)) w) := by
  cases hn : numS (d :: r) with
  | some N =>
    have hw : refWord (c :: d :: r) = (if 1 < N then some (List.replicate (min N 300) ⟨1, decide (c = 112), 0, 0⟩) else none) := by
      rcases hc with rfl | rfl <;> simp [refWord, hn]
    rw [hw]
    rcases hc with rfl | rfl
    · exact word_num_107 _ _ d r rfl rfl hl N hn _ rfl w
    · exact word_num_112 _ _ d r rfl rfl hl N hn _ rfl w
  | none =>
    have hw : refWord (c :: d :: r) = (if kindR d = 8 then (if r = [] then some [⟨8, decide (c = 112), 0, 0⟩] else none) else refParts (kindR d) (decide (c = 112)) (spl 47 r)) := by
      rcases hc with rfl | rfl <;> simp [refWord, hn]
    rw [hw]
    by_cases h8 : kindR d = 8
    · rw [if_pos h8]
      rcases hc with rfl | rfl
      · exact word_slip_107 _ _ d r rfl rfl hl hn h8 _ rfl w
      · exact word_slip_112 _ _ d r rfl rfl hl hn h8 _ rfl w
    · rw [if_neg h8]
      by_cases h6 : kindR d = 6
      · have e : ∀ p, refParts (kindR d) p (spl 47 r) = if (spl 47 r).length = 2 then (numS ((spl 47 r).getD 1 [])).bind fun b => (numS ((spl 47 r).getD 0 [])).bind fun a => some [⟨6, p, a, b⟩] else none := fun p => by rw [h6]; rfl
        rw [e]
        rcases hc with rfl | rfl
        · exact word_two6_107 _ _ d r rfl rfl hl hn h6 _ rfl _ rfl w
        · exact word_two6_112 _ _ d r rfl rfl hl hn h6 _ rfl _ rfl w
      by_cases h7 : kindR d = 7
      · have e : ∀ p, refParts (kindR d) p (spl 47 r) = if (spl 47 r).length = 2 then (numS ((spl 47 r).getD 1 [])).bind fun b => (numS ((spl 47 r).getD 0 [])).bind fun a => some [⟨7, p, a, b⟩] else none := fun p => by rw [h7]; rfl
        rw [e]
        rcases hc with rfl | rfl
        · exact word_two7_107 _ _ d r rfl rfl hl hn h7 _ rfl _ rfl w
        · exact word_two7_112 _ _ d r rfl rfl hl hn h7 _ rfl _ rfl w
      by_cases h0 : kindR d = 0
      · have e : ∀ p, refParts (kindR d) p (spl 47 r) = none := fun p => by rw [h0]; simp [refParts]
        rw [e]
        rcases hc with rfl | rfl
        · exact word_zero_107 _ _ d r rfl rfl hl hn h0 _ rfl w
        · exact word_zero_112 _ _ d r rfl rfl hl hn h0 _ rfl w
      · have e : ∀ p, refParts (kindR d) p (spl 47 r) = if (spl 47 r).length = 1 then (numS ((spl 47 r).getD 0 [])).bind fun a => some [⟨kindR d, p, a, 0⟩] else none := fun p => by
          simp [refParts, h6, h7, h0]
        rw [e]
        have b8 : (kindR d == 8) = false := beq_eq_false_iff_ne.2 h8
        have b6 : (kindR d == 6) = false := beq_eq_false_iff_ne.2 h6
        have b7 : (kindR d == 7) = false := beq_eq_false_iff_ne.2 h7
        have b0 : (kindR d != 0) = true := bne_iff_ne.2 h0
        rcases hc with rfl | rfl
        · exact word_one_part_107 _ _ d r rfl rfl hl hn _ rfl _ rfl b8 b6 b7 b0 _ rfl w
        · exact word_one_part_112 _ _ d r rfl rfl hl hn _ rfl _ rfl b8 b6 b7 b0 _ rfl w
theorem word_ref_any (l : List UInt8) (hl : l.length ≤ 100000) (w : World) : Calls Tryz.prog 24 #[.string ⟨l.toArray⟩] w (WordR (refWord l) w) := by
  cases l with
  | nil => exact word_nil w
  | cons c R =>
    by_cases hc : c = 107 ∨ c = 112
    · cases R with
      | nil =>
        rcases hc with rfl | rfl
        · exact word_one_107 w
        · exact word_one_112 w
      | cons d r => exact word_k_any c d r hc (by simp only [List.length_cons] at hl ⊢; omega) w
    · by_cases hy : c = 121 ∧ R = [111]
      · obtain ⟨rfl, rfl⟩ := hy
        exact word_yo w
      · have hE : ((c :: R : List UInt8) == [121, 111]) = false := by
          rw [beq_eq_false_iff_ne]
          intro e
          injection e with e1 e2
          exact hy ⟨e1, e2⟩
        by_cases ho : 1 < R.length ∧ c = 111 ∧ R.head? = some 110
        · have hw : refWord (c :: R) = (numS R.tail).bind fun a => some [⟨9, false, a, 0⟩] := by rw [refWord.eq_def]; simp only; rw [if_neg hy, if_pos ho]
          rw [hw]
          obtain ⟨h1, rfl, h3⟩ := ho
          cases R with
          | nil => cases h3
          | cons x t =>
            obtain rfl : x = 110 := by simpa using h3
            refine word_on _ t hE (by simp only [List.length_cons] at h1 ⊢; omega) (by simp) ?_ (by simp only [List.length_cons] at hl; omega) w
            rw [str_extD _ 2 _ (Nat.le_refl _)]
            rfl
        · have hw : refWord (c :: R) = none := by rw [refWord.eq_def]; simp only; rw [if_neg hy, if_neg ho, if_pos hc]
          rw [hw]
          have hk : ((c.toNat : Int) != 107) = true := by
            rw [bne_iff_ne]
            intro e
            exact hc (.inl (UInt8.toNat_inj.1 (by rw [show (107 : UInt8).toNat = 107 from rfl]; omega)))
          have hq : ((c.toNat : Int) != 112) = true := by
            rw [bne_iff_ne]
            intro e
            exact hc (.inr (UInt8.toNat_inj.1 (by rw [show (112 : UInt8).toNat = 112 from rfl]; omega)))
          have h0 : ∀ h, (⟨(c :: R : List UInt8).toArray⟩ : ByteArray)[0]'h = c := fun _ => rfl
          by_cases hp : ((c :: R : List UInt8).take 2 == [111, 110]) = true
          · have hlen : ¬ 1 < R.length := fun h => by
              apply ho
              rw [beq_iff_eq] at hp
              cases R with
              | nil => simp at h
              | cons x t =>
                simp at hp
                exact ⟨h, hp.1, by rw [hp.2]; rfl⟩
            exact word_short _ c hE (by simp only [List.length_cons]; omega) h0 (by simp only [List.length_cons]; omega) hk hq w
          · exact word_bad _ c hE (by simpa using hp) h0 (by simp only [List.length_cons]; omega) hk hq w
end Go.Proofs.YtpcefmopoceiiaaGreatDoor
