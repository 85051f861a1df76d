/- The finder's zero value: its cells. -/
import Derived.Test.YtgbmeefcnjdjbaaFindE
namespace Go.Proofs.Ytgbmeefcnjdjbaa
set_option maxRecDepth 100000
set_option maxRecDepth 100000
open Go.RowKit Go.ChangeShapes Go.WideShapes Go.Joins
def isZ : Value → Bool
  | .int .i64 v => v == 0
  | _ => false
def finderOk : Option Value → Bool
  | some (.agg cs) => cs.size == 10981 && (cs.toList.drop 1).all isZ
  | _ => false
theorem finder_ok : finderOk ((Try.prog.info? 40).bind (·.zero)) = true := by decide +kernel
theorem isZ_e {v : Value} (h : isZ v = true) : v = .int .i64 0 := by
  unfold isZ at h
  split at h
  · rename_i x
    have : x = 0 := by simpa using h
    rw [this]
  · cases h
theorem zero_finder (w : World) : ∃ Z : Array Value, Sem.run Try.prog (zeroValue 40) w = .ok (.agg Z) w ∧ Z.size = 10981 ∧ ∀ i, 1 ≤ i → i < 10981 → Z[i]? = some (.int .i64 0) := by
  have h := finder_ok
  cases hi : Try.prog.info? 40 with
  | none => rw [hi] at h; cases h
  | some i0 =>
    rw [hi] at h
    cases hz : i0.zero with
    | none => rw [Option.bind_some, hz] at h; cases h
    | some z =>
      rw [Option.bind_some, hz] at h
      cases z with
      | agg cs =>
        simp only [finderOk, Bool.and_eq_true, beq_iff_eq, List.all_eq_true] at h
        refine ⟨cs, ?_, h.1, fun i h1 h2 => ?_⟩
        · simp [zeroValue, typeInfo, hi, hz, go_sem]
        · have hlt : i < cs.size := by omega
          rw [Array.getElem?_eq_getElem hlt]
          have hm : cs[i] ∈ cs.toList.drop 1 := by
            rw [List.mem_iff_getElem]
            refine ⟨i - 1, by simp; omega, ?_⟩
            rw [List.getElem_drop]
            simp only [Array.getElem_toList]
            congr 1
            omega
          rw [isZ_e (h.2 _ hm)]
      | _ => cases h
end Go.Proofs.Ytgbmeefcnjdjbaa
