/-
  DERIVED. GIVEN WITH THE SEED: THE CARDS: each row of YtpcefmopoceiiaaGreatDoorRows.lean that lists a variable, with what it lists TIED to the program's text (the seventh form; the later family's looks); each row that meets fmt, with fmt's text TOLD by the authors' own Lean function (tested against real Go, not proved from fmt's source: count such statements apart). THE CARD IS WHAT COUNTS. Prove the row's statement (the work); the ties are given (YtpcefmopoceiiaaGreatDoorTie.lean); close each card by the builder's one call (the guide's Derived/Test/ToyasCard.lean, 'card_holds'). Laid BY PROGRAM, IN A SANDBOX (cutbox-door.mjs). By AI agents, Wed Nov 11 2026. No macro, syntax, notation, axiom, sorry.
-/
import Derived.Test.YtpcefmopoceiiaaGreatDoorRows
import GoSem.ClaimSeven
namespace Go.Proofs.YtpcefmopoceiiaaGreatDoor
namespace Rows

/-- THE TIED CARD OF 'raddlelaw25.StitchTexts'. -/
def stitchTextsCard : Claim7 := { stood := { row := stitchTextsRow, standIns := [], harness := (true, "fe6e91f33150d2bb1891ea1fcf796b66938681c0016dcc5c75ab2669178dd4b9"), looks := true }, kinds := [], alts := [], laidByText := true, laidKinds := [.data, .data, .data, .data, .sentinel, .sentinel, .pinned], laidTests := true, laidLooks := .later }
def StitchTextsCardSaid : Prop := Claim7.holds Tryz.pinned (.plain (OpenSpec.ofChange stitchTextsSpec)) stitchTextsCard

/-- THE SECOND FORM's CARD OF 'raddlelaw25.StitchTexts'. -/
def stitchTextsUptoCard : Claim7 := { stood := { row := stitchTextsUptoRow, standIns := [], harness := (true, "fe6e91f33150d2bb1891ea1fcf796b66938681c0016dcc5c75ab2669178dd4b9"), looks := true }, kinds := [], alts := [], laidByText := true, laidKinds := [.data, .data, .data, .data, .sentinel, .sentinel, .pinned], laidTests := true, laidLooks := .later }
def StitchTextsUptoCardSaid : Prop := Claim7.holds Tryz.pinned (.plain (OpenSpec.upto stitchTextsSpec)) stitchTextsUptoCard
end Rows
end Go.Proofs.YtpcefmopoceiiaaGreatDoor
