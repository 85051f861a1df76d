/- A copy into the middle of a row that the call has made. -/
import Derived.Test.YtpcefmopoceiiaaGreatDoorCopyP
namespace Go.Proofs.YtpcefmopoceiiaaGreatDoor
set_option maxRecDepth 100000
open Go.RowKit Go.ChangeShapes Go.WideShapes Go.Joins
section
variable {P : Program} {ops : Array Oper} {rest : List Oper} {o : Oper} {a : Act} {K : Act → World → Prop} {Q : Exit → Act → World → Prop} {E : Prop} {w wx : World}
/-- a row of which a part is written anew -/
theorem setCells_mid {g : Nat} {t : TypeId} {w : World} {A X B cs : List Value} (h : w.heap[g]? = some (.cells (A ++ X ++ B).toArray t (0, 0))) (hl : cs.length = X.length) :
    (w.setCells g A.length cs).heap[g]? = some (.cells (A ++ cs ++ B).toArray t (0, 0)) := by
  obtain ⟨cur', h1, h2⟩ := setCells_row g t cs A.length w _ h
  have hex : ∀ j, j < cs.length → (w.cell? ⟨g, A.length + j, none⟩).isSome = true := fun j hj => by
    rw [cell_of_row w g _ _ t (0, 0) h, Array.getElem?_eq_getElem (by simp; omega)]
    rfl
  have e : cur' = (A ++ cs ++ B).toArray := by
    apply Array.ext
    · simp [h2, hl]
    · intro j hj hj2
      simp only [List.getElem_toArray]
      have hj3 : j < A.length + X.length + B.length := by simpa [h2, Nat.add_assoc] using hj
      have hc : (w.setCells g A.length cs).cell? ⟨g, j, none⟩ = some cur'[j] := by
        rw [cell_of_row _ g j cur' t (0, 0) h1, Array.getElem?_eq_getElem hj]
      rcases Nat.lt_or_ge j A.length with h3 | h3
      · rw [World.cell?_setCells_out g cs A.length w ⟨g, j, none⟩ (fun _ _ => .inl h3), cell_of_row w g j _ t (0, 0) h] at hc
        have : (A ++ cs ++ B)[j]? = some cur'[j] := by
          rw [← hc]
          simp [h3, Nat.lt_add_right]
        exact (Option.some.inj (this.symm.trans (List.getElem?_eq_getElem (by simpa using hj2))))
      · rcases Nat.lt_or_ge j (A.length + cs.length) with h4 | h4
        · have h5 := World.cell?_setCells_in g cs A.length w hex (j - A.length) (by omega)
          rw [show A.length + (j - A.length) = j by omega, hc] at h5
          have : (A ++ cs ++ B)[j]? = some cur'[j] := by
            rw [h5, List.append_assoc, List.getElem?_append_right h3, List.getElem?_append_left (by omega), List.getElem?_eq_getElem (by omega)]
          exact (Option.some.inj (this.symm.trans (List.getElem?_eq_getElem (by simpa using hj2))))
        · rw [World.cell?_setCells_out g cs A.length w ⟨g, j, none⟩ (fun _ _ => .inr h4), cell_of_row w g j _ t (0, 0) h] at hc
          have : (A ++ cs ++ B)[j]? = some cur'[j] := by
            rw [← hc, List.getElem?_toArray, List.getElem?_append_right (by simp; omega), List.getElem?_append_right (by simp; omega)]
            simp [hl]
          exact (Option.some.inj (this.symm.trans (List.getElem?_eq_getElem (by simpa using hj2))))
  rw [h1, e]
theorem copy_mid (dT sT ty e : TypeId) (size : Nat) {g n B k m dn dc sn sc : Nat} {ad : Addr} {A X Y cs : List Value} (hu : P.underlying dT = some (.slice e)) (hsz : (P.info? e).map (·.size) = some size)
    (hown : wx.ownsRow B e size (.slice (some ⟨g, 0, none⟩) n n) n (A ++ X ++ Y)) (hk : A.length = k) (hm : m = sn.min dn) (hl : cs.length = m * size) (hX : X.length = cs.length) (hsrc : ∀ j u, cs[j]? = some u → wx.cell? (ad.add j) = some u) (h1 : ∀ v ∈ cs, v.oneCell' = true) :
    (Builtin.copy_ #[dT, sT] ty #[.slice (some ⟨g, k, none⟩) dn dc, .slice (some ad) sn sc]).run P wx = .ok (goInt m) (wx.setCells g k cs) ∧ (wx.setCells g k cs).ownsRow B e size (.slice (some ⟨g, 0, none⟩) n n) n (A ++ cs ++ Y) ∧ But (some g) wx (wx.setCells g k cs) := by
  subst hk
  have hlen := hown.1
  have hrow : ∃ cur, B ≤ g ∧ wx.heap[g]? = some (.cells cur e (0, 0)) ∧ n ≤ maxLen ∧ cur.size = n * size ∧ cur.toList.take (n * size) = A ++ X ++ Y := by
    rcases hown.2 with ⟨h', _⟩ | ⟨g', cap', cur, h', hb, hg, hnc, hcm, hcs, hq⟩
    · simp at h'
    · simp only [Value.slice.injEq, Option.some.injEq, Addr.mk.injEq, and_true, true_and] at h'
      obtain ⟨rfl, rfl⟩ := h'
      exact ⟨cur, hb, hg, hcm, hcs, hq⟩
  obtain ⟨cur, hb, hg, hmx, hcs, hq⟩ := hrow
  have hcur : cur = (A ++ X ++ Y).toArray := by
    rw [← hq, List.take_of_length_le (by simp [hcs])]
  subst hcur
  refine ⟨run_copy_part wx dT sT ty e size m g A.length ad dn dc sn sc cs hu hsz hm hl hsrc ?_ (fun j _ => World.ownsRow.frozenAt hown _) h1, ⟨?_, .inr ⟨g, n, _, rfl, hb, setCells_mid hg hX.symm, Nat.le_refl _, hmx, ?_, ?_⟩⟩, setCells_but g cs A.length wx⟩
  · intro j hj
    rw [cell_of_row wx g _ _ e (0, 0) hg, Array.getElem?_eq_getElem (by simp; omega)]
    rfl
  · simpa [hX] using hlen
  · simpa [hX] using hcs
  · refine List.take_of_length_le ?_
    show (A ++ cs ++ Y).length ≤ n * size
    simp only [List.length_append] at hlen ⊢
    omega
end
end Go.Proofs.YtpcefmopoceiiaaGreatDoor
