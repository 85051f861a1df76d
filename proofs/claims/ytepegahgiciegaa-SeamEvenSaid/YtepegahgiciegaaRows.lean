/-
  No cell of these rows narrows 'for every input' (looked for: loops, veiled, ifaces, maps, wideKeys, modest, calm, conditions, laid).
  DERIVED. THE GIVEN ROWS OF THIS SEAT. 7 by the template 'for every input the law returns true; each argument reads behind the call as it read before'; 0 by the template 'total and deterministic' (their statements: YtepegahgiciegaaTotals.lean).
  GIVEN WITH THE SEED: the statements are not yours to turn. If you find one false, say at which input.
  Laid BY PROGRAM, IN A SANDBOX (cutbox-rows.mjs): the forced cells as the released guide's own fill.sh prints them over the translation 26939da7fe7abbae… (all of the seat's roots in one cut). By AI agents, Wed Nov 11 2026. No macro, syntax, notation, axiom, sorry.
-/
import Derived.Test.YtepegahgiciegaaChecked
import GoSem.Claim
import GoSem.ClaimJoined
import GoSem.ClaimMapViews
import Derived.JoinedTies
import Derived.KernelRfl
namespace Go.Proofs.Ytepegahgiciegaa
/- THE CELL 'sum', in the pinned program and in every row, IS THE sha256 OF THE DUMP (.gsa) THAT YtepegahgiciegaaProg.lean LOADS. Nothing in Lean hashes anything: it is a label: what it is worth is what the hold of that sum in a sandbox is worth. -/
noncomputable def Try.pinned : Pinned := { name := "ytepegahgiciegaa", sum := "26939da7fe7abbae459fce7437de17d0154c2706dc48b507d1a33a339ff33e1c", checked := Try.checked }
namespace Rows
def none {H : Type} : Left H := { results := [], args := [] }

/-- 'raddlelaw39.SeamPicks': WHATEVER THE INPUT: true; the input reads as it did. -/
def seamPicksSpec : ChangeSpec := { name := "seamPicks", fn := fun _ => fun
  | [d1, d2, d3] => { results := [.lit (.bool true)], args := [d1, d2, d3] }
  | _ => none }
def seamPicksRow : OpenClaim := { program := "ytepegahgiciegaa", sum := "26939da7fe7abbae459fce7437de17d0154c2706dc48b507d1a33a339ff33e1c", func := "raddle/raddlelaw39.SeamPicks", spec := "seamPicks", apart := false }
def SeamPicksSaid : Prop := seamPicksRow.holds Try.pinned (OpenSpec.ofChange seamPicksSpec)

/-- ITS FALSE NEIGHBOUR: 'it returns false'. Refute it at one input. -/
def seamPicksWrong : ChangeSpec := { name := "seamPicks", fn := fun _ => fun
  | [d1, d2, d3] => { results := [.lit (.bool false)], args := [d1, d2, d3] }
  | _ => none }
def SeamPicksWrongFalsely : Prop := seamPicksRow.holds Try.pinned (OpenSpec.ofChange seamPicksWrong)

/-- 'raddlelaw39.SeamJoins': WHATEVER THE INPUT: true; the input reads as it did. -/
def seamJoinsSpec : ChangeSpec := { name := "seamJoins", fn := fun _ => fun
  | [d1, d2, d3, d4, d5] => { results := [.lit (.bool true)], args := [d1, d2, d3, d4, d5] }
  | _ => none }
def seamJoinsRow : OpenClaim := { program := "ytepegahgiciegaa", sum := "26939da7fe7abbae459fce7437de17d0154c2706dc48b507d1a33a339ff33e1c", func := "raddle/raddlelaw39.SeamJoins", spec := "seamJoins", apart := false }
def SeamJoinsSaid : Prop := seamJoinsRow.holds Try.pinned (OpenSpec.ofChange seamJoinsSpec)

/-- ITS FALSE NEIGHBOUR: 'it returns false'. Refute it at one input. -/
def seamJoinsWrong : ChangeSpec := { name := "seamJoins", fn := fun _ => fun
  | [d1, d2, d3, d4, d5] => { results := [.lit (.bool false)], args := [d1, d2, d3, d4, d5] }
  | _ => none }
def SeamJoinsWrongFalsely : Prop := seamJoinsRow.holds Try.pinned (OpenSpec.ofChange seamJoinsWrong)

/-- 'raddlelaw39.SeamNames': WHATEVER THE INPUT: true; the input reads as it did. -/
def seamNamesSpec : ChangeSpec := { name := "seamNames", fn := fun _ => fun
  | [] => { results := [.lit (.bool true)], args := [] }
  | _ => none }
def seamNamesRow : OpenClaim := { program := "ytepegahgiciegaa", sum := "26939da7fe7abbae459fce7437de17d0154c2706dc48b507d1a33a339ff33e1c", func := "raddle/raddlelaw39.SeamNames", spec := "seamNames", apart := false }
def SeamNamesSaid : Prop := seamNamesRow.holds Try.pinned (OpenSpec.ofChange seamNamesSpec)

/-- ITS FALSE NEIGHBOUR: 'it returns false'. Refute it at one input. -/
def seamNamesWrong : ChangeSpec := { name := "seamNames", fn := fun _ => fun
  | [] => { results := [.lit (.bool false)], args := [] }
  | _ => none }
def SeamNamesWrongFalsely : Prop := seamNamesRow.holds Try.pinned (OpenSpec.ofChange seamNamesWrong)

/-- 'raddlelaw39.SeamAll': WHATEVER THE INPUT: true; the input reads as it did. -/
def seamAllSpec : ChangeSpec := { name := "seamAll", fn := fun _ => fun
  | [d1, d2] => { results := [.lit (.bool true)], args := [d1, d2] }
  | _ => none }
def seamAllRow : OpenClaim := { program := "ytepegahgiciegaa", sum := "26939da7fe7abbae459fce7437de17d0154c2706dc48b507d1a33a339ff33e1c", func := "raddle/raddlelaw39.SeamAll", spec := "seamAll", apart := false }
def SeamAllSaid : Prop := seamAllRow.holds Try.pinned (OpenSpec.ofChange seamAllSpec)

/-- ITS FALSE NEIGHBOUR: 'it returns false'. Refute it at one input. -/
def seamAllWrong : ChangeSpec := { name := "seamAll", fn := fun _ => fun
  | [d1, d2] => { results := [.lit (.bool false)], args := [d1, d2] }
  | _ => none }
def SeamAllWrongFalsely : Prop := seamAllRow.holds Try.pinned (OpenSpec.ofChange seamAllWrong)

/-- 'raddlelaw39.SeamMarks': WHATEVER THE INPUT: true; the input reads as it did. -/
def seamMarksSpec : ChangeSpec := { name := "seamMarks", fn := fun _ => fun
  | [d1, d2, d3, d4] => { results := [.lit (.bool true)], args := [d1, d2, d3, d4] }
  | _ => none }
def seamMarksRow : OpenClaim := { program := "ytepegahgiciegaa", sum := "26939da7fe7abbae459fce7437de17d0154c2706dc48b507d1a33a339ff33e1c", func := "raddle/raddlelaw39.SeamMarks", spec := "seamMarks", apart := false }
def SeamMarksSaid : Prop := seamMarksRow.holds Try.pinned (OpenSpec.ofChange seamMarksSpec)

/-- ITS FALSE NEIGHBOUR: 'it returns false'. Refute it at one input. -/
def seamMarksWrong : ChangeSpec := { name := "seamMarks", fn := fun _ => fun
  | [d1, d2, d3, d4] => { results := [.lit (.bool false)], args := [d1, d2, d3, d4] }
  | _ => none }
def SeamMarksWrongFalsely : Prop := seamMarksRow.holds Try.pinned (OpenSpec.ofChange seamMarksWrong)

/-- 'raddlelaw39.SeamEven': WHATEVER THE INPUT: true; the input reads as it did. -/
def seamEvenSpec : ChangeSpec := { name := "seamEven", fn := fun _ => fun
  | [d1, d2] => { results := [.lit (.bool true)], args := [d1, d2] }
  | _ => none }
def seamEvenRow : OpenClaim := { program := "ytepegahgiciegaa", sum := "26939da7fe7abbae459fce7437de17d0154c2706dc48b507d1a33a339ff33e1c", func := "raddle/raddlelaw39.SeamEven", spec := "seamEven", apart := false }
def SeamEvenSaid : Prop := seamEvenRow.holds Try.pinned (OpenSpec.ofChange seamEvenSpec)

/-- ITS FALSE NEIGHBOUR: 'it returns false'. Refute it at one input. -/
def seamEvenWrong : ChangeSpec := { name := "seamEven", fn := fun _ => fun
  | [d1, d2] => { results := [.lit (.bool false)], args := [d1, d2] }
  | _ => none }
def SeamEvenWrongFalsely : Prop := seamEvenRow.holds Try.pinned (OpenSpec.ofChange seamEvenWrong)

/-- 'raddlelaw39.SeamRows': WHATEVER THE INPUT: true; the input reads as it did. -/
def seamRowsSpec : ChangeSpec := { name := "seamRows", fn := fun _ => fun
  | [d1, d2, d3] => { results := [.lit (.bool true)], args := [d1, d2, d3] }
  | _ => none }
def seamRowsRow : OpenClaim := { program := "ytepegahgiciegaa", sum := "26939da7fe7abbae459fce7437de17d0154c2706dc48b507d1a33a339ff33e1c", func := "raddle/raddlelaw39.SeamRows", spec := "seamRows", apart := false }
def SeamRowsSaid : Prop := seamRowsRow.holds Try.pinned (OpenSpec.ofChange seamRowsSpec)

/-- ITS FALSE NEIGHBOUR: 'it returns false'. Refute it at one input. -/
def seamRowsWrong : ChangeSpec := { name := "seamRows", fn := fun _ => fun
  | [d1, d2, d3] => { results := [.lit (.bool false)], args := [d1, d2, d3] }
  | _ => none }
def SeamRowsWrongFalsely : Prop := seamRowsRow.holds Try.pinned (OpenSpec.ofChange seamRowsWrong)

/- THE SECOND FORM. 'bulk': how many values and letters a reading holds, each counted each time it is reached (what is shared counts as often as it is met; a slice's spare places count too). A statement '..UptoSaid' is the law's where the arguments, and the package variables that the reading takes, are together of bulk at most 1048576: NARROWER than '..Said'. Prove '..Said' where nothing that the law and all that it calls make is longer than what came in: it says more and counts as full. Else prove '..UptoSaid'. A law counts once. -/
mutual
def uptoBulk {H : Type} : DataW H → Nat
  | .lit (.string bytes) => bytes.length + 1
  | .lit _ => 1
  | .nil => 1
  | .ptr d => uptoBulk d + 1
  | .slice elems spare => uptoBulkAll elems + uptoBulkAll spare + 1
  | .agg parts => uptoBulkAll parts + 1
  | .iface _ d => uptoBulk d + 1
  | .map entries => uptoBulkEntries entries + 1
  | .held _ => 1
def uptoBulkAll {H : Type} : List (DataW H) → Nat
  | [] => 0
  | d :: r => uptoBulk d + uptoBulkAll r
def uptoBulkEntries {H : Type} : List (Lit × DataW H) → Nat
  | [] => 0
  | x :: r => uptoBulkEntry x + uptoBulkEntries r
def uptoBulkEntry {H : Type} : Lit × DataW H → Nat
  | (.string bytes, d) => bytes.length + uptoBulk d + 1
  | (_, d) => uptoBulk d + 1
 end
def uptoSmall : (H : Type) → List (DataW H) → Bool := fun _ ds => decide (uptoBulkAll ds ≤ 1048576)
def OpenSpec.upto (s : _root_.Go.ChangeSpec) : _root_.Go.OpenSpec := { _root_.Go.OpenSpec.ofChange s with cond := some uptoSmall }

/-- 'raddlelaw39.SeamPicks', WHERE WHAT IT READS IS OF BULK AT MOST 1048576: true; the input reads as it did. -/
def seamPicksUptoRow : OpenClaim := { program := "ytepegahgiciegaa", sum := "26939da7fe7abbae459fce7437de17d0154c2706dc48b507d1a33a339ff33e1c", func := "raddle/raddlelaw39.SeamPicks", spec := "seamPicks", apart := false, narrowed := true }
def SeamPicksUptoSaid : Prop := seamPicksUptoRow.holds Try.pinned (OpenSpec.upto seamPicksSpec)

/-- 'raddlelaw39.SeamJoins', WHERE WHAT IT READS IS OF BULK AT MOST 1048576: true; the input reads as it did. -/
def seamJoinsUptoRow : OpenClaim := { program := "ytepegahgiciegaa", sum := "26939da7fe7abbae459fce7437de17d0154c2706dc48b507d1a33a339ff33e1c", func := "raddle/raddlelaw39.SeamJoins", spec := "seamJoins", apart := false, narrowed := true }
def SeamJoinsUptoSaid : Prop := seamJoinsUptoRow.holds Try.pinned (OpenSpec.upto seamJoinsSpec)

/-- 'raddlelaw39.SeamNames', WHERE WHAT IT READS IS OF BULK AT MOST 1048576: true; the input reads as it did. -/
def seamNamesUptoRow : OpenClaim := { program := "ytepegahgiciegaa", sum := "26939da7fe7abbae459fce7437de17d0154c2706dc48b507d1a33a339ff33e1c", func := "raddle/raddlelaw39.SeamNames", spec := "seamNames", apart := false, narrowed := true }
def SeamNamesUptoSaid : Prop := seamNamesUptoRow.holds Try.pinned (OpenSpec.upto seamNamesSpec)

/-- 'raddlelaw39.SeamAll', WHERE WHAT IT READS IS OF BULK AT MOST 1048576: true; the input reads as it did. -/
def seamAllUptoRow : OpenClaim := { program := "ytepegahgiciegaa", sum := "26939da7fe7abbae459fce7437de17d0154c2706dc48b507d1a33a339ff33e1c", func := "raddle/raddlelaw39.SeamAll", spec := "seamAll", apart := false, narrowed := true }
def SeamAllUptoSaid : Prop := seamAllUptoRow.holds Try.pinned (OpenSpec.upto seamAllSpec)

/-- 'raddlelaw39.SeamMarks', WHERE WHAT IT READS IS OF BULK AT MOST 1048576: true; the input reads as it did. -/
def seamMarksUptoRow : OpenClaim := { program := "ytepegahgiciegaa", sum := "26939da7fe7abbae459fce7437de17d0154c2706dc48b507d1a33a339ff33e1c", func := "raddle/raddlelaw39.SeamMarks", spec := "seamMarks", apart := false, narrowed := true }
def SeamMarksUptoSaid : Prop := seamMarksUptoRow.holds Try.pinned (OpenSpec.upto seamMarksSpec)

/-- 'raddlelaw39.SeamEven', WHERE WHAT IT READS IS OF BULK AT MOST 1048576: true; the input reads as it did. -/
def seamEvenUptoRow : OpenClaim := { program := "ytepegahgiciegaa", sum := "26939da7fe7abbae459fce7437de17d0154c2706dc48b507d1a33a339ff33e1c", func := "raddle/raddlelaw39.SeamEven", spec := "seamEven", apart := false, narrowed := true }
def SeamEvenUptoSaid : Prop := seamEvenUptoRow.holds Try.pinned (OpenSpec.upto seamEvenSpec)

/-- 'raddlelaw39.SeamRows', WHERE WHAT IT READS IS OF BULK AT MOST 1048576: true; the input reads as it did. -/
def seamRowsUptoRow : OpenClaim := { program := "ytepegahgiciegaa", sum := "26939da7fe7abbae459fce7437de17d0154c2706dc48b507d1a33a339ff33e1c", func := "raddle/raddlelaw39.SeamRows", spec := "seamRows", apart := false, narrowed := true }
def SeamRowsUptoSaid : Prop := seamRowsUptoRow.holds Try.pinned (OpenSpec.upto seamRowsSpec)

end Rows
end Go.Proofs.Ytepegahgiciegaa
