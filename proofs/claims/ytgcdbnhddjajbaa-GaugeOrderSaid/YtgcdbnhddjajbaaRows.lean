/-
  No cell of these rows narrows 'for every input' (looked for: loops, veiled, ifaces, maps, wideKeys, modest, calm, conditions, laid).
  DERIVED. THE GIVEN ROWS OF THIS SEAT. 7 by the template 'for every input the law returns true; each argument reads behind the call as it read before'; 0 by the template 'total and deterministic' (their statements: YtgcdbnhddjajbaaTotals.lean).
  GIVEN WITH THE SEED: the statements are not yours to turn. If you find one false, say at which input.
  Laid BY PROGRAM, IN A SANDBOX (cutbox-rows.mjs): the forced cells as the released guide's own fill.sh prints them over the translation 918f9019cda45585… (all of the seat's roots in one cut). By AI agents, Wed Nov 11 2026. No macro, syntax, notation, axiom, sorry.
-/
import Derived.Test.YtgcdbnhddjajbaaChecked
import GoSem.Claim
import GoSem.ClaimJoined
import GoSem.ClaimMapViews
import Derived.JoinedTies
import Derived.KernelRfl
namespace Go.Proofs.Ytgcdbnhddjajbaa
/- THE CELL 'sum', in the pinned program and in every row, IS THE sha256 OF THE DUMP (.gsa) THAT YtgcdbnhddjajbaaProg.lean LOADS. Nothing in Lean hashes anything: it is a label: what it is worth is what the hold of that sum in a sandbox is worth. -/
noncomputable def Try.pinned : Pinned := { name := "ytgcdbnhddjajbaa", sum := "918f9019cda4558555473362f2b5d1bc18c7ebb12b025fe37f3651d00f5ac7e9", checked := Try.checked }
namespace Rows
def none {H : Type} : Left H := { results := [], args := [] }

/-- 'raddlelaw35.GaugeCounts': WHATEVER THE INPUT: true; the input reads as it did. -/
def gaugeCountsSpec : ChangeSpec := { name := "gaugeCounts", fn := fun _ => fun
  | [d1, d2, d3] => { results := [.lit (.bool true)], args := [d1, d2, d3] }
  | _ => none }
def gaugeCountsRow : OpenClaim := { program := "ytgcdbnhddjajbaa", sum := "918f9019cda4558555473362f2b5d1bc18c7ebb12b025fe37f3651d00f5ac7e9", func := "raddle/raddlelaw35.GaugeCounts", spec := "gaugeCounts", apart := false }
def GaugeCountsSaid : Prop := gaugeCountsRow.holds Try.pinned (OpenSpec.ofChange gaugeCountsSpec)

/-- ITS FALSE NEIGHBOUR: 'it returns false'. Refute it at one input. -/
def gaugeCountsWrong : ChangeSpec := { name := "gaugeCounts", fn := fun _ => fun
  | [d1, d2, d3] => { results := [.lit (.bool false)], args := [d1, d2, d3] }
  | _ => none }
def GaugeCountsWrongFalsely : Prop := gaugeCountsRow.holds Try.pinned (OpenSpec.ofChange gaugeCountsWrong)

/-- 'raddlelaw35.GaugeFits': WHATEVER THE INPUT: true; the input reads as it did. -/
def gaugeFitsSpec : ChangeSpec := { name := "gaugeFits", fn := fun _ => fun
  | [d1, d2, d3, d4, d5, d6] => { results := [.lit (.bool true)], args := [d1, d2, d3, d4, d5, d6] }
  | _ => none }
def gaugeFitsRow : OpenClaim := { program := "ytgcdbnhddjajbaa", sum := "918f9019cda4558555473362f2b5d1bc18c7ebb12b025fe37f3651d00f5ac7e9", func := "raddle/raddlelaw35.GaugeFits", spec := "gaugeFits", apart := false }
def GaugeFitsSaid : Prop := gaugeFitsRow.holds Try.pinned (OpenSpec.ofChange gaugeFitsSpec)

/-- ITS FALSE NEIGHBOUR: 'it returns false'. Refute it at one input. -/
def gaugeFitsWrong : ChangeSpec := { name := "gaugeFits", fn := fun _ => fun
  | [d1, d2, d3, d4, d5, d6] => { results := [.lit (.bool false)], args := [d1, d2, d3, d4, d5, d6] }
  | _ => none }
def GaugeFitsWrongFalsely : Prop := gaugeFitsRow.holds Try.pinned (OpenSpec.ofChange gaugeFitsWrong)

/-- 'raddlelaw35.GaugeNearest': WHATEVER THE INPUT: true; the input reads as it did. -/
def gaugeNearestSpec : ChangeSpec := { name := "gaugeNearest", fn := fun _ => fun
  | [d1, d2, d3, d4, d5, d6] => { results := [.lit (.bool true)], args := [d1, d2, d3, d4, d5, d6] }
  | _ => none }
def gaugeNearestRow : OpenClaim := { program := "ytgcdbnhddjajbaa", sum := "918f9019cda4558555473362f2b5d1bc18c7ebb12b025fe37f3651d00f5ac7e9", func := "raddle/raddlelaw35.GaugeNearest", spec := "gaugeNearest", apart := false }
def GaugeNearestSaid : Prop := gaugeNearestRow.holds Try.pinned (OpenSpec.ofChange gaugeNearestSpec)

/-- ITS FALSE NEIGHBOUR: 'it returns false'. Refute it at one input. -/
def gaugeNearestWrong : ChangeSpec := { name := "gaugeNearest", fn := fun _ => fun
  | [d1, d2, d3, d4, d5, d6] => { results := [.lit (.bool false)], args := [d1, d2, d3, d4, d5, d6] }
  | _ => none }
def GaugeNearestWrongFalsely : Prop := gaugeNearestRow.holds Try.pinned (OpenSpec.ofChange gaugeNearestWrong)

/-- 'raddlelaw35.GaugeOrder': WHATEVER THE INPUT: true; the input reads as it did. -/
def gaugeOrderSpec : ChangeSpec := { name := "gaugeOrder", fn := fun _ => fun
  | [d1, d2, d3, d4, d5] => { results := [.lit (.bool true)], args := [d1, d2, d3, d4, d5] }
  | _ => none }
def gaugeOrderRow : OpenClaim := { program := "ytgcdbnhddjajbaa", sum := "918f9019cda4558555473362f2b5d1bc18c7ebb12b025fe37f3651d00f5ac7e9", func := "raddle/raddlelaw35.GaugeOrder", spec := "gaugeOrder", apart := false }
def GaugeOrderSaid : Prop := gaugeOrderRow.holds Try.pinned (OpenSpec.ofChange gaugeOrderSpec)

/-- ITS FALSE NEIGHBOUR: 'it returns false'. Refute it at one input. -/
def gaugeOrderWrong : ChangeSpec := { name := "gaugeOrder", fn := fun _ => fun
  | [d1, d2, d3, d4, d5] => { results := [.lit (.bool false)], args := [d1, d2, d3, d4, d5] }
  | _ => none }
def GaugeOrderWrongFalsely : Prop := gaugeOrderRow.holds Try.pinned (OpenSpec.ofChange gaugeOrderWrong)

/-- 'raddlelaw35.GaugeSame': WHATEVER THE INPUT: true; the input reads as it did. -/
def gaugeSameSpec : ChangeSpec := { name := "gaugeSame", fn := fun _ => fun
  | [d1, d2, d3, d4] => { results := [.lit (.bool true)], args := [d1, d2, d3, d4] }
  | _ => none }
def gaugeSameRow : OpenClaim := { program := "ytgcdbnhddjajbaa", sum := "918f9019cda4558555473362f2b5d1bc18c7ebb12b025fe37f3651d00f5ac7e9", func := "raddle/raddlelaw35.GaugeSame", spec := "gaugeSame", apart := false }
def GaugeSameSaid : Prop := gaugeSameRow.holds Try.pinned (OpenSpec.ofChange gaugeSameSpec)

/-- ITS FALSE NEIGHBOUR: 'it returns false'. Refute it at one input. -/
def gaugeSameWrong : ChangeSpec := { name := "gaugeSame", fn := fun _ => fun
  | [d1, d2, d3, d4] => { results := [.lit (.bool false)], args := [d1, d2, d3, d4] }
  | _ => none }
def GaugeSameWrongFalsely : Prop := gaugeSameRow.holds Try.pinned (OpenSpec.ofChange gaugeSameWrong)

/-- 'raddlelaw35.GaugeNames': WHATEVER THE INPUT: true; the input reads as it did. -/
def gaugeNamesSpec : ChangeSpec := { name := "gaugeNames", fn := fun _ => fun
  | [] => { results := [.lit (.bool true)], args := [] }
  | _ => none }
def gaugeNamesRow : OpenClaim := { program := "ytgcdbnhddjajbaa", sum := "918f9019cda4558555473362f2b5d1bc18c7ebb12b025fe37f3651d00f5ac7e9", func := "raddle/raddlelaw35.GaugeNames", spec := "gaugeNames", apart := false }
def GaugeNamesSaid : Prop := gaugeNamesRow.holds Try.pinned (OpenSpec.ofChange gaugeNamesSpec)

/-- ITS FALSE NEIGHBOUR: 'it returns false'. Refute it at one input. -/
def gaugeNamesWrong : ChangeSpec := { name := "gaugeNames", fn := fun _ => fun
  | [] => { results := [.lit (.bool false)], args := [] }
  | _ => none }
def GaugeNamesWrongFalsely : Prop := gaugeNamesRow.holds Try.pinned (OpenSpec.ofChange gaugeNamesWrong)

/-- 'raddlelaw35.GaugeBack': WHATEVER THE INPUT: true; the input reads as it did. -/
def gaugeBackSpec : ChangeSpec := { name := "gaugeBack", fn := fun _ => fun
  | [d1, d2] => { results := [.lit (.bool true)], args := [d1, d2] }
  | _ => none }
def gaugeBackRow : OpenClaim := { program := "ytgcdbnhddjajbaa", sum := "918f9019cda4558555473362f2b5d1bc18c7ebb12b025fe37f3651d00f5ac7e9", func := "raddle/raddlelaw35.GaugeBack", spec := "gaugeBack", apart := false }
def GaugeBackSaid : Prop := gaugeBackRow.holds Try.pinned (OpenSpec.ofChange gaugeBackSpec)

/-- ITS FALSE NEIGHBOUR: 'it returns false'. Refute it at one input. -/
def gaugeBackWrong : ChangeSpec := { name := "gaugeBack", fn := fun _ => fun
  | [d1, d2] => { results := [.lit (.bool false)], args := [d1, d2] }
  | _ => none }
def GaugeBackWrongFalsely : Prop := gaugeBackRow.holds Try.pinned (OpenSpec.ofChange gaugeBackWrong)

/- THE SECOND FORM. 'bulk': how many values and letters a reading holds, each counted each time it is reached (what is shared counts as often as it is met; a slice's spare places count too). A statement '..UptoSaid' is the law's where the arguments, and the package variables that the reading takes, are together of bulk at most 1048576: NARROWER than '..Said'. Prove '..Said' where nothing that the law and all that it calls make is longer than what came in: it says more and counts as full. Else prove '..UptoSaid'. A law counts once. -/
mutual
def uptoBulk {H : Type} : DataW H → Nat
  | .lit (.string bytes) => bytes.length + 1
  | .lit _ => 1
  | .nil => 1
  | .ptr d => uptoBulk d + 1
  | .slice elems spare => uptoBulkAll elems + uptoBulkAll spare + 1
  | .agg parts => uptoBulkAll parts + 1
  | .iface _ d => uptoBulk d + 1
  | .map entries => uptoBulkEntries entries + 1
  | .held _ => 1
def uptoBulkAll {H : Type} : List (DataW H) → Nat
  | [] => 0
  | d :: r => uptoBulk d + uptoBulkAll r
def uptoBulkEntries {H : Type} : List (Lit × DataW H) → Nat
  | [] => 0
  | x :: r => uptoBulkEntry x + uptoBulkEntries r
def uptoBulkEntry {H : Type} : Lit × DataW H → Nat
  | (.string bytes, d) => bytes.length + uptoBulk d + 1
  | (_, d) => uptoBulk d + 1
 end
def uptoSmall : (H : Type) → List (DataW H) → Bool := fun _ ds => decide (uptoBulkAll ds ≤ 1048576)
def OpenSpec.upto (s : _root_.Go.ChangeSpec) : _root_.Go.OpenSpec := { _root_.Go.OpenSpec.ofChange s with cond := some uptoSmall }

/-- 'raddlelaw35.GaugeCounts', WHERE WHAT IT READS IS OF BULK AT MOST 1048576: true; the input reads as it did. -/
def gaugeCountsUptoRow : OpenClaim := { program := "ytgcdbnhddjajbaa", sum := "918f9019cda4558555473362f2b5d1bc18c7ebb12b025fe37f3651d00f5ac7e9", func := "raddle/raddlelaw35.GaugeCounts", spec := "gaugeCounts", apart := false, narrowed := true }
def GaugeCountsUptoSaid : Prop := gaugeCountsUptoRow.holds Try.pinned (OpenSpec.upto gaugeCountsSpec)

/-- 'raddlelaw35.GaugeFits', WHERE WHAT IT READS IS OF BULK AT MOST 1048576: true; the input reads as it did. -/
def gaugeFitsUptoRow : OpenClaim := { program := "ytgcdbnhddjajbaa", sum := "918f9019cda4558555473362f2b5d1bc18c7ebb12b025fe37f3651d00f5ac7e9", func := "raddle/raddlelaw35.GaugeFits", spec := "gaugeFits", apart := false, narrowed := true }
def GaugeFitsUptoSaid : Prop := gaugeFitsUptoRow.holds Try.pinned (OpenSpec.upto gaugeFitsSpec)

/-- 'raddlelaw35.GaugeNearest', WHERE WHAT IT READS IS OF BULK AT MOST 1048576: true; the input reads as it did. -/
def gaugeNearestUptoRow : OpenClaim := { program := "ytgcdbnhddjajbaa", sum := "918f9019cda4558555473362f2b5d1bc18c7ebb12b025fe37f3651d00f5ac7e9", func := "raddle/raddlelaw35.GaugeNearest", spec := "gaugeNearest", apart := false, narrowed := true }
def GaugeNearestUptoSaid : Prop := gaugeNearestUptoRow.holds Try.pinned (OpenSpec.upto gaugeNearestSpec)

/-- 'raddlelaw35.GaugeOrder', WHERE WHAT IT READS IS OF BULK AT MOST 1048576: true; the input reads as it did. -/
def gaugeOrderUptoRow : OpenClaim := { program := "ytgcdbnhddjajbaa", sum := "918f9019cda4558555473362f2b5d1bc18c7ebb12b025fe37f3651d00f5ac7e9", func := "raddle/raddlelaw35.GaugeOrder", spec := "gaugeOrder", apart := false, narrowed := true }
def GaugeOrderUptoSaid : Prop := gaugeOrderUptoRow.holds Try.pinned (OpenSpec.upto gaugeOrderSpec)

/-- 'raddlelaw35.GaugeSame', WHERE WHAT IT READS IS OF BULK AT MOST 1048576: true; the input reads as it did. -/
def gaugeSameUptoRow : OpenClaim := { program := "ytgcdbnhddjajbaa", sum := "918f9019cda4558555473362f2b5d1bc18c7ebb12b025fe37f3651d00f5ac7e9", func := "raddle/raddlelaw35.GaugeSame", spec := "gaugeSame", apart := false, narrowed := true }
def GaugeSameUptoSaid : Prop := gaugeSameUptoRow.holds Try.pinned (OpenSpec.upto gaugeSameSpec)

/-- 'raddlelaw35.GaugeNames', WHERE WHAT IT READS IS OF BULK AT MOST 1048576: true; the input reads as it did. -/
def gaugeNamesUptoRow : OpenClaim := { program := "ytgcdbnhddjajbaa", sum := "918f9019cda4558555473362f2b5d1bc18c7ebb12b025fe37f3651d00f5ac7e9", func := "raddle/raddlelaw35.GaugeNames", spec := "gaugeNames", apart := false, narrowed := true }
def GaugeNamesUptoSaid : Prop := gaugeNamesUptoRow.holds Try.pinned (OpenSpec.upto gaugeNamesSpec)

/-- 'raddlelaw35.GaugeBack', WHERE WHAT IT READS IS OF BULK AT MOST 1048576: true; the input reads as it did. -/
def gaugeBackUptoRow : OpenClaim := { program := "ytgcdbnhddjajbaa", sum := "918f9019cda4558555473362f2b5d1bc18c7ebb12b025fe37f3651d00f5ac7e9", func := "raddle/raddlelaw35.GaugeBack", spec := "gaugeBack", apart := false, narrowed := true }
def GaugeBackUptoSaid : Prop := gaugeBackUptoRow.holds Try.pinned (OpenSpec.upto gaugeBackSpec)

end Rows
end Go.Proofs.Ytgcdbnhddjajbaa
