/-
  No cell of these rows narrows 'for every input' (looked for: loops, veiled, ifaces, maps, wideKeys, modest, calm, conditions, laid).
  DERIVED. THE GIVEN ROWS OF THIS SEAT. 7 by the template 'for every input the law returns true; each argument reads behind the call as it read before'; 0 by the template 'total and deterministic' (their statements: YtegfmojjajoncaaTotals.lean).
  GIVEN WITH THE SEED: the statements are not yours to turn. If you find one false, say at which input.
  Laid BY PROGRAM, IN A SANDBOX (cutbox-rows.mjs): the forced cells as the released guide's own fill.sh prints them over the translation 5584a70559f772e0… (all of the seat's roots in one cut). By AI agents, Wed Nov 11 2026. No macro, syntax, notation, axiom, sorry.
-/
import Derived.Test.YtegfmojjajoncaaChecked
import GoSem.Claim
import GoSem.ClaimJoined
import GoSem.ClaimMapViews
import Derived.JoinedTies
import Derived.KernelRfl
namespace Go.Proofs.Ytegfmojjajoncaa
/- THE CELL 'sum', in the pinned program and in every row, IS THE sha256 OF THE DUMP (.gsa) THAT YtegfmojjajoncaaProg.lean LOADS. Nothing in Lean hashes anything: it is a label: what it is worth is what the hold of that sum in a sandbox is worth. -/
noncomputable def Try.pinned : Pinned := { name := "ytegfmojjajoncaa", sum := "5584a70559f772e0d5d9f0e984f0126b9faf0eb618660ceb05a7c28cf1c16f95", checked := Try.checked }
namespace Rows
def none {H : Type} : Left H := { results := [], args := [] }

/-- 'raddlelaw36.SlopeSpreads': WHATEVER THE INPUT: true; the input reads as it did. -/
def slopeSpreadsSpec : ChangeSpec := { name := "slopeSpreads", fn := fun _ => fun
  | [d1, d2] => { results := [.lit (.bool true)], args := [d1, d2] }
  | _ => none }
def slopeSpreadsRow : OpenClaim := { program := "ytegfmojjajoncaa", sum := "5584a70559f772e0d5d9f0e984f0126b9faf0eb618660ceb05a7c28cf1c16f95", func := "raddle/raddlelaw36.SlopeSpreads", spec := "slopeSpreads", unfollowed := true, recurses := true, apart := false }
def SlopeSpreadsSaid : Prop := slopeSpreadsRow.holds Try.pinned (OpenSpec.ofChange slopeSpreadsSpec)

/-- ITS FALSE NEIGHBOUR: 'it returns false'. Refute it at one input. -/
def slopeSpreadsWrong : ChangeSpec := { name := "slopeSpreads", fn := fun _ => fun
  | [d1, d2] => { results := [.lit (.bool false)], args := [d1, d2] }
  | _ => none }
def SlopeSpreadsWrongFalsely : Prop := slopeSpreadsRow.holds Try.pinned (OpenSpec.ofChange slopeSpreadsWrong)

/-- 'raddlelaw36.SlopeLines': WHATEVER THE INPUT: true; the input reads as it did. -/
def slopeLinesSpec : ChangeSpec := { name := "slopeLines", fn := fun _ => fun
  | [d1, d2, d3, d4] => { results := [.lit (.bool true)], args := [d1, d2, d3, d4] }
  | _ => none }
def slopeLinesRow : OpenClaim := { program := "ytegfmojjajoncaa", sum := "5584a70559f772e0d5d9f0e984f0126b9faf0eb618660ceb05a7c28cf1c16f95", func := "raddle/raddlelaw36.SlopeLines", spec := "slopeLines", unfollowed := true, recurses := true, apart := false }
def SlopeLinesSaid : Prop := slopeLinesRow.holds Try.pinned (OpenSpec.ofChange slopeLinesSpec)

/-- ITS FALSE NEIGHBOUR: 'it returns false'. Refute it at one input. -/
def slopeLinesWrong : ChangeSpec := { name := "slopeLines", fn := fun _ => fun
  | [d1, d2, d3, d4] => { results := [.lit (.bool false)], args := [d1, d2, d3, d4] }
  | _ => none }
def SlopeLinesWrongFalsely : Prop := slopeLinesRow.holds Try.pinned (OpenSpec.ofChange slopeLinesWrong)

/-- 'raddlelaw36.SlopeNames': WHATEVER THE INPUT: true; the input reads as it did. -/
def slopeNamesSpec : ChangeSpec := { name := "slopeNames", fn := fun _ => fun
  | [] => { results := [.lit (.bool true)], args := [] }
  | _ => none }
def slopeNamesRow : OpenClaim := { program := "ytegfmojjajoncaa", sum := "5584a70559f772e0d5d9f0e984f0126b9faf0eb618660ceb05a7c28cf1c16f95", func := "raddle/raddlelaw36.SlopeNames", spec := "slopeNames", unfollowed := true, recurses := true, apart := false }
def SlopeNamesSaid : Prop := slopeNamesRow.holds Try.pinned (OpenSpec.ofChange slopeNamesSpec)

/-- ITS FALSE NEIGHBOUR: 'it returns false'. Refute it at one input. -/
def slopeNamesWrong : ChangeSpec := { name := "slopeNames", fn := fun _ => fun
  | [] => { results := [.lit (.bool false)], args := [] }
  | _ => none }
def SlopeNamesWrongFalsely : Prop := slopeNamesRow.holds Try.pinned (OpenSpec.ofChange slopeNamesWrong)

/-- 'raddlelaw36.SlopeNear': WHATEVER THE INPUT: true; the input reads as it did. -/
def slopeNearSpec : ChangeSpec := { name := "slopeNear", fn := fun _ => fun
  | [d1, d2, d3] => { results := [.lit (.bool true)], args := [d1, d2, d3] }
  | _ => none }
def slopeNearRow : OpenClaim := { program := "ytegfmojjajoncaa", sum := "5584a70559f772e0d5d9f0e984f0126b9faf0eb618660ceb05a7c28cf1c16f95", func := "raddle/raddlelaw36.SlopeNear", spec := "slopeNear", unfollowed := true, recurses := true, apart := false }
def SlopeNearSaid : Prop := slopeNearRow.holds Try.pinned (OpenSpec.ofChange slopeNearSpec)

/-- ITS FALSE NEIGHBOUR: 'it returns false'. Refute it at one input. -/
def slopeNearWrong : ChangeSpec := { name := "slopeNear", fn := fun _ => fun
  | [d1, d2, d3] => { results := [.lit (.bool false)], args := [d1, d2, d3] }
  | _ => none }
def SlopeNearWrongFalsely : Prop := slopeNearRow.holds Try.pinned (OpenSpec.ofChange slopeNearWrong)

/-- 'raddlelaw36.SlopeSteady': WHATEVER THE INPUT: true; the input reads as it did. -/
def slopeSteadySpec : ChangeSpec := { name := "slopeSteady", fn := fun _ => fun
  | [d1, d2, d3, d4, d5, d6] => { results := [.lit (.bool true)], args := [d1, d2, d3, d4, d5, d6] }
  | _ => none }
def slopeSteadyRow : OpenClaim := { program := "ytegfmojjajoncaa", sum := "5584a70559f772e0d5d9f0e984f0126b9faf0eb618660ceb05a7c28cf1c16f95", func := "raddle/raddlelaw36.SlopeSteady", spec := "slopeSteady", unfollowed := true, recurses := true, apart := false }
def SlopeSteadySaid : Prop := slopeSteadyRow.holds Try.pinned (OpenSpec.ofChange slopeSteadySpec)

/-- ITS FALSE NEIGHBOUR: 'it returns false'. Refute it at one input. -/
def slopeSteadyWrong : ChangeSpec := { name := "slopeSteady", fn := fun _ => fun
  | [d1, d2, d3, d4, d5, d6] => { results := [.lit (.bool false)], args := [d1, d2, d3, d4, d5, d6] }
  | _ => none }
def SlopeSteadyWrongFalsely : Prop := slopeSteadyRow.holds Try.pinned (OpenSpec.ofChange slopeSteadyWrong)

/-- 'raddlelaw36.SlopeGaps': WHATEVER THE INPUT: true; the input reads as it did. -/
def slopeGapsSpec : ChangeSpec := { name := "slopeGaps", fn := fun _ => fun
  | [d1, d2] => { results := [.lit (.bool true)], args := [d1, d2] }
  | _ => none }
def slopeGapsRow : OpenClaim := { program := "ytegfmojjajoncaa", sum := "5584a70559f772e0d5d9f0e984f0126b9faf0eb618660ceb05a7c28cf1c16f95", func := "raddle/raddlelaw36.SlopeGaps", spec := "slopeGaps", unfollowed := true, recurses := true, apart := false }
def SlopeGapsSaid : Prop := slopeGapsRow.holds Try.pinned (OpenSpec.ofChange slopeGapsSpec)

/-- ITS FALSE NEIGHBOUR: 'it returns false'. Refute it at one input. -/
def slopeGapsWrong : ChangeSpec := { name := "slopeGaps", fn := fun _ => fun
  | [d1, d2] => { results := [.lit (.bool false)], args := [d1, d2] }
  | _ => none }
def SlopeGapsWrongFalsely : Prop := slopeGapsRow.holds Try.pinned (OpenSpec.ofChange slopeGapsWrong)

/-- 'raddlelaw36.SlopeMoves': WHATEVER THE INPUT: true; the input reads as it did. -/
def slopeMovesSpec : ChangeSpec := { name := "slopeMoves", fn := fun _ => fun
  | [d1, d2, d3, d4] => { results := [.lit (.bool true)], args := [d1, d2, d3, d4] }
  | _ => none }
def slopeMovesRow : OpenClaim := { program := "ytegfmojjajoncaa", sum := "5584a70559f772e0d5d9f0e984f0126b9faf0eb618660ceb05a7c28cf1c16f95", func := "raddle/raddlelaw36.SlopeMoves", spec := "slopeMoves", unfollowed := true, recurses := true, apart := false }
def SlopeMovesSaid : Prop := slopeMovesRow.holds Try.pinned (OpenSpec.ofChange slopeMovesSpec)

/-- ITS FALSE NEIGHBOUR: 'it returns false'. Refute it at one input. -/
def slopeMovesWrong : ChangeSpec := { name := "slopeMoves", fn := fun _ => fun
  | [d1, d2, d3, d4] => { results := [.lit (.bool false)], args := [d1, d2, d3, d4] }
  | _ => none }
def SlopeMovesWrongFalsely : Prop := slopeMovesRow.holds Try.pinned (OpenSpec.ofChange slopeMovesWrong)

/- THE SECOND FORM. 'bulk': how many values and letters a reading holds, each counted each time it is reached (what is shared counts as often as it is met; a slice's spare places count too). A statement '..UptoSaid' is the law's where the arguments, and the package variables that the reading takes, are together of bulk at most 1048576: NARROWER than '..Said'. Prove '..Said' where nothing that the law and all that it calls make is longer than what came in: it says more and counts as full. Else prove '..UptoSaid'. A law counts once. -/
mutual
def uptoBulk {H : Type} : DataW H → Nat
  | .lit (.string bytes) => bytes.length + 1
  | .lit _ => 1
  | .nil => 1
  | .ptr d => uptoBulk d + 1
  | .slice elems spare => uptoBulkAll elems + uptoBulkAll spare + 1
  | .agg parts => uptoBulkAll parts + 1
  | .iface _ d => uptoBulk d + 1
  | .map entries => uptoBulkEntries entries + 1
  | .held _ => 1
def uptoBulkAll {H : Type} : List (DataW H) → Nat
  | [] => 0
  | d :: r => uptoBulk d + uptoBulkAll r
def uptoBulkEntries {H : Type} : List (Lit × DataW H) → Nat
  | [] => 0
  | x :: r => uptoBulkEntry x + uptoBulkEntries r
def uptoBulkEntry {H : Type} : Lit × DataW H → Nat
  | (.string bytes, d) => bytes.length + uptoBulk d + 1
  | (_, d) => uptoBulk d + 1
 end
def uptoSmall : (H : Type) → List (DataW H) → Bool := fun _ ds => decide (uptoBulkAll ds ≤ 1048576)
def OpenSpec.upto (s : _root_.Go.ChangeSpec) : _root_.Go.OpenSpec := { _root_.Go.OpenSpec.ofChange s with cond := some uptoSmall }

/-- 'raddlelaw36.SlopeSpreads', WHERE WHAT IT READS IS OF BULK AT MOST 1048576: true; the input reads as it did. -/
def slopeSpreadsUptoRow : OpenClaim := { program := "ytegfmojjajoncaa", sum := "5584a70559f772e0d5d9f0e984f0126b9faf0eb618660ceb05a7c28cf1c16f95", func := "raddle/raddlelaw36.SlopeSpreads", spec := "slopeSpreads", unfollowed := true, recurses := true, apart := false, narrowed := true }
def SlopeSpreadsUptoSaid : Prop := slopeSpreadsUptoRow.holds Try.pinned (OpenSpec.upto slopeSpreadsSpec)

/-- 'raddlelaw36.SlopeLines', WHERE WHAT IT READS IS OF BULK AT MOST 1048576: true; the input reads as it did. -/
def slopeLinesUptoRow : OpenClaim := { program := "ytegfmojjajoncaa", sum := "5584a70559f772e0d5d9f0e984f0126b9faf0eb618660ceb05a7c28cf1c16f95", func := "raddle/raddlelaw36.SlopeLines", spec := "slopeLines", unfollowed := true, recurses := true, apart := false, narrowed := true }
def SlopeLinesUptoSaid : Prop := slopeLinesUptoRow.holds Try.pinned (OpenSpec.upto slopeLinesSpec)

/-- 'raddlelaw36.SlopeNames', WHERE WHAT IT READS IS OF BULK AT MOST 1048576: true; the input reads as it did. -/
def slopeNamesUptoRow : OpenClaim := { program := "ytegfmojjajoncaa", sum := "5584a70559f772e0d5d9f0e984f0126b9faf0eb618660ceb05a7c28cf1c16f95", func := "raddle/raddlelaw36.SlopeNames", spec := "slopeNames", unfollowed := true, recurses := true, apart := false, narrowed := true }
def SlopeNamesUptoSaid : Prop := slopeNamesUptoRow.holds Try.pinned (OpenSpec.upto slopeNamesSpec)

/-- 'raddlelaw36.SlopeNear', WHERE WHAT IT READS IS OF BULK AT MOST 1048576: true; the input reads as it did. -/
def slopeNearUptoRow : OpenClaim := { program := "ytegfmojjajoncaa", sum := "5584a70559f772e0d5d9f0e984f0126b9faf0eb618660ceb05a7c28cf1c16f95", func := "raddle/raddlelaw36.SlopeNear", spec := "slopeNear", unfollowed := true, recurses := true, apart := false, narrowed := true }
def SlopeNearUptoSaid : Prop := slopeNearUptoRow.holds Try.pinned (OpenSpec.upto slopeNearSpec)

/-- 'raddlelaw36.SlopeSteady', WHERE WHAT IT READS IS OF BULK AT MOST 1048576: true; the input reads as it did. -/
def slopeSteadyUptoRow : OpenClaim := { program := "ytegfmojjajoncaa", sum := "5584a70559f772e0d5d9f0e984f0126b9faf0eb618660ceb05a7c28cf1c16f95", func := "raddle/raddlelaw36.SlopeSteady", spec := "slopeSteady", unfollowed := true, recurses := true, apart := false, narrowed := true }
def SlopeSteadyUptoSaid : Prop := slopeSteadyUptoRow.holds Try.pinned (OpenSpec.upto slopeSteadySpec)

/-- 'raddlelaw36.SlopeGaps', WHERE WHAT IT READS IS OF BULK AT MOST 1048576: true; the input reads as it did. -/
def slopeGapsUptoRow : OpenClaim := { program := "ytegfmojjajoncaa", sum := "5584a70559f772e0d5d9f0e984f0126b9faf0eb618660ceb05a7c28cf1c16f95", func := "raddle/raddlelaw36.SlopeGaps", spec := "slopeGaps", unfollowed := true, recurses := true, apart := false, narrowed := true }
def SlopeGapsUptoSaid : Prop := slopeGapsUptoRow.holds Try.pinned (OpenSpec.upto slopeGapsSpec)

/-- 'raddlelaw36.SlopeMoves', WHERE WHAT IT READS IS OF BULK AT MOST 1048576: true; the input reads as it did. -/
def slopeMovesUptoRow : OpenClaim := { program := "ytegfmojjajoncaa", sum := "5584a70559f772e0d5d9f0e984f0126b9faf0eb618660ceb05a7c28cf1c16f95", func := "raddle/raddlelaw36.SlopeMoves", spec := "slopeMoves", unfollowed := true, recurses := true, apart := false, narrowed := true }
def SlopeMovesUptoSaid : Prop := slopeMovesUptoRow.holds Try.pinned (OpenSpec.upto slopeMovesSpec)

end Rows
end Go.Proofs.Ytegfmojjajoncaa
