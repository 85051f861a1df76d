/- The walks of the checks of terms: size. -/
import Derived.Test.YtgbmeefcnjdjbaaTms
import Derived.Deep.QuietTactic
import Derived.BigQuiet
import Derived.Laws.Small
import Derived.Deep.RegionHeld3
import Derived.Deep.DeepCutAuto
namespace Go.Proofs.Ytgbmeefcnjdjbaa
set_option maxRecDepth 100000
open Go.RowKit Go.ChangeShapes Go.WideShapes Go.Joins
theorem cnt_cons {t : Tms} (h : 0 < t.cnt) : ∃ N c g r, t = .cons N c g r := by
  cases t with
  | nil => simp [Tms.cnt] at h
  | cons N c g r => exact ⟨N, c, g, r, rfl⟩
theorem cnt_size : ∀ t : Tms, t.cnt ≤ t.size := by
  intro t
  induction t with
  | nil => simp [Tms.cnt]
  | cons N c g r h1 h2 => simp [Tms.cnt, Tms.size]; omega
theorem depth_le : ∀ t : Tms, t.depth ≤ t.size := by
  intro t
  induction t with
  | nil => simp [Tms.depth, Tms.size]
  | cons N c g r h1 h2 => simp [Tms.depth, Tms.size]; omega
theorem run_max_t {P : Program} {w : World} (ts : Array TypeId) (t : TypeId) (x y : Int) : (Builtin.max_ ts t #[.int .i64 x, .int .i64 y]).run P w = .ok (.int .i64 (max x y)) w := by
  rw [run_max_int2]
  congr 2
  split <;> omega
theorem run_min_t {P : Program} {w : World} (ts : Array TypeId) (t : TypeId) (x y : Int) : (Builtin.min_ ts t #[.int .i64 x, .int .i64 y]).run P w = .ok (.int .i64 (min x y)) w := by
  rw [run_min_int2]
  congr 2
  split <;> omega
end Go.Proofs.Ytgbmeefcnjdjbaa
