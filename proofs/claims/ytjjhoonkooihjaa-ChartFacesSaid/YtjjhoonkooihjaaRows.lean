/-
  No cell of these rows narrows 'for every input' (looked for: loops, veiled, ifaces, maps, wideKeys, modest, calm, conditions, laid).
  DERIVED. THE GIVEN ROWS OF THIS SEAT. 3 by the template 'for every input the law returns true; each argument reads behind the call as it read before'; 0 by the template 'total and deterministic' (their statements: YtjjhoonkooihjaaTotals.lean).
  GIVEN WITH THE SEED: the statements are not yours to turn. If you find one false, say at which input.
  Laid BY PROGRAM, IN A SANDBOX (cutbox-rows.mjs): the forced cells as the released guide's own fill.sh prints them over the translation a4d438a003a2c609… (all of the seat's roots in one cut). By AI agents, Wed Nov 11 2026. No macro, syntax, notation, axiom, sorry.
-/
import Derived.Test.YtjjhoonkooihjaaChecked
import GoSem.Claim
import GoSem.ClaimJoined
import GoSem.ClaimMapViews
import Derived.JoinedTies
import Derived.KernelRfl
namespace Go.Proofs.Ytjjhoonkooihjaa
/- THE CELL 'sum', in the pinned program and in every row, IS THE sha256 OF THE DUMP (.gsa) THAT YtjjhoonkooihjaaProg.lean LOADS. Nothing in Lean hashes anything: it is a label: what it is worth is what the hold of that sum in a sandbox is worth. -/
noncomputable def Try.pinned : Pinned := { name := "ytjjhoonkooihjaa", sum := "a4d438a003a2c609ae8b7dcb52fda18919e12239580367d3e27d51cfe21e2818", checked := Try.checked }
namespace Rows
def none {H : Type} : Left H := { results := [], args := [] }

/-- 'raddlelaw26.ChartJoins': WHATEVER THE INPUT: true; the input reads as it did. -/
def chartJoinsSpec : ChangeSpec := { name := "chartJoins", fn := fun _ => fun
  | [d1, d2] => { results := [.lit (.bool true)], args := [d1, d2] }
  | _ => none }
def chartJoinsRow : OpenClaim := { program := "ytjjhoonkooihjaa", sum := "a4d438a003a2c609ae8b7dcb52fda18919e12239580367d3e27d51cfe21e2818", func := "raddle/raddlelaw26.ChartJoins", spec := "chartJoins", unfollowed := true, recurses := true, apart := false }
def ChartJoinsSaid : Prop := chartJoinsRow.holds Try.pinned (OpenSpec.ofChange chartJoinsSpec)

/-- ITS FALSE NEIGHBOUR: 'it returns false'. Refute it at one input. -/
def chartJoinsWrong : ChangeSpec := { name := "chartJoins", fn := fun _ => fun
  | [d1, d2] => { results := [.lit (.bool false)], args := [d1, d2] }
  | _ => none }
def ChartJoinsWrongFalsely : Prop := chartJoinsRow.holds Try.pinned (OpenSpec.ofChange chartJoinsWrong)

/-- 'raddlelaw26.ChartChecks': WHATEVER THE INPUT: true; the input reads as it did. -/
def chartChecksSpec : ChangeSpec := { name := "chartChecks", fn := fun _ => fun
  | [d1, d2] => { results := [.lit (.bool true)], args := [d1, d2] }
  | _ => none }
def chartChecksRow : OpenClaim := { program := "ytjjhoonkooihjaa", sum := "a4d438a003a2c609ae8b7dcb52fda18919e12239580367d3e27d51cfe21e2818", func := "raddle/raddlelaw26.ChartChecks", spec := "chartChecks", unfollowed := true, recurses := true, apart := false }
def ChartChecksSaid : Prop := chartChecksRow.holds Try.pinned (OpenSpec.ofChange chartChecksSpec)

/-- ITS FALSE NEIGHBOUR: 'it returns false'. Refute it at one input. -/
def chartChecksWrong : ChangeSpec := { name := "chartChecks", fn := fun _ => fun
  | [d1, d2] => { results := [.lit (.bool false)], args := [d1, d2] }
  | _ => none }
def ChartChecksWrongFalsely : Prop := chartChecksRow.holds Try.pinned (OpenSpec.ofChange chartChecksWrong)

/-- 'raddlelaw26.ChartFaces': WHATEVER THE INPUT: true; the input reads as it did. -/
def chartFacesSpec : ChangeSpec := { name := "chartFaces", fn := fun _ => fun
  | [d1, d2, d3, d4] => { results := [.lit (.bool true)], args := [d1, d2, d3, d4] }
  | _ => none }
def chartFacesRow : OpenClaim := { program := "ytjjhoonkooihjaa", sum := "a4d438a003a2c609ae8b7dcb52fda18919e12239580367d3e27d51cfe21e2818", func := "raddle/raddlelaw26.ChartFaces", spec := "chartFaces", unfollowed := true, recurses := true, apart := false }
def ChartFacesSaid : Prop := chartFacesRow.holds Try.pinned (OpenSpec.ofChange chartFacesSpec)

/-- ITS FALSE NEIGHBOUR: 'it returns false'. Refute it at one input. -/
def chartFacesWrong : ChangeSpec := { name := "chartFaces", fn := fun _ => fun
  | [d1, d2, d3, d4] => { results := [.lit (.bool false)], args := [d1, d2, d3, d4] }
  | _ => none }
def ChartFacesWrongFalsely : Prop := chartFacesRow.holds Try.pinned (OpenSpec.ofChange chartFacesWrong)

/- THE SECOND FORM. 'bulk': how many values and letters a reading holds, each counted each time it is reached (what is shared counts as often as it is met; a slice's spare places count too). A statement '..UptoSaid' is the law's where the arguments, and the package variables that the reading takes, are together of bulk at most 1048576: NARROWER than '..Said'. Prove '..Said' where nothing that the law and all that it calls make is longer than what came in: it says more and counts as full. Else prove '..UptoSaid'. A law counts once. -/
mutual
def uptoBulk {H : Type} : DataW H → Nat
  | .lit (.string bytes) => bytes.length + 1
  | .lit _ => 1
  | .nil => 1
  | .ptr d => uptoBulk d + 1
  | .slice elems spare => uptoBulkAll elems + uptoBulkAll spare + 1
  | .agg parts => uptoBulkAll parts + 1
  | .iface _ d => uptoBulk d + 1
  | .map entries => uptoBulkEntries entries + 1
  | .held _ => 1
def uptoBulkAll {H : Type} : List (DataW H) → Nat
  | [] => 0
  | d :: r => uptoBulk d + uptoBulkAll r
def uptoBulkEntries {H : Type} : List (Lit × DataW H) → Nat
  | [] => 0
  | x :: r => uptoBulkEntry x + uptoBulkEntries r
def uptoBulkEntry {H : Type} : Lit × DataW H → Nat
  | (.string bytes, d) => bytes.length + uptoBulk d + 1
  | (_, d) => uptoBulk d + 1
 end
def uptoSmall : (H : Type) → List (DataW H) → Bool := fun _ ds => decide (uptoBulkAll ds ≤ 1048576)
def OpenSpec.upto (s : _root_.Go.ChangeSpec) : _root_.Go.OpenSpec := { _root_.Go.OpenSpec.ofChange s with cond := some uptoSmall }

/-- 'raddlelaw26.ChartJoins', WHERE WHAT IT READS IS OF BULK AT MOST 1048576: true; the input reads as it did. -/
def chartJoinsUptoRow : OpenClaim := { program := "ytjjhoonkooihjaa", sum := "a4d438a003a2c609ae8b7dcb52fda18919e12239580367d3e27d51cfe21e2818", func := "raddle/raddlelaw26.ChartJoins", spec := "chartJoins", unfollowed := true, recurses := true, apart := false, narrowed := true }
def ChartJoinsUptoSaid : Prop := chartJoinsUptoRow.holds Try.pinned (OpenSpec.upto chartJoinsSpec)

/-- 'raddlelaw26.ChartChecks', WHERE WHAT IT READS IS OF BULK AT MOST 1048576: true; the input reads as it did. -/
def chartChecksUptoRow : OpenClaim := { program := "ytjjhoonkooihjaa", sum := "a4d438a003a2c609ae8b7dcb52fda18919e12239580367d3e27d51cfe21e2818", func := "raddle/raddlelaw26.ChartChecks", spec := "chartChecks", unfollowed := true, recurses := true, apart := false, narrowed := true }
def ChartChecksUptoSaid : Prop := chartChecksUptoRow.holds Try.pinned (OpenSpec.upto chartChecksSpec)

/-- 'raddlelaw26.ChartFaces', WHERE WHAT IT READS IS OF BULK AT MOST 1048576: true; the input reads as it did. -/
def chartFacesUptoRow : OpenClaim := { program := "ytjjhoonkooihjaa", sum := "a4d438a003a2c609ae8b7dcb52fda18919e12239580367d3e27d51cfe21e2818", func := "raddle/raddlelaw26.ChartFaces", spec := "chartFaces", unfollowed := true, recurses := true, apart := false, narrowed := true }
def ChartFacesUptoSaid : Prop := chartFacesUptoRow.holds Try.pinned (OpenSpec.upto chartFacesSpec)

end Rows
end Go.Proofs.Ytjjhoonkooihjaa
