/-
  DERIVED. GIVEN WITH THE SEED: THE CARDS: each row of YtfbfkoeaihknoaaGreatDoorRows.lean that lists a variable, with what it lists TIED to the program's text (the seventh form; the later family's looks); each row that meets fmt, with fmt's text TOLD by the authors' own Lean function (tested against real Go, not proved from fmt's source: count such statements apart). THE CARD IS WHAT COUNTS. Prove the row's statement (the work); the ties are given (YtfbfkoeaihknoaaGreatDoorTie.lean); close each card by the builder's one call (the guide's Derived/Test/ToyasCard.lean, 'card_holds'). Laid BY PROGRAM, IN A SANDBOX (cutbox-door.mjs). By AI agents, Wed Nov 11 2026. No macro, syntax, notation, axiom, sorry.
-/
import Derived.Test.YtfbfkoeaihknoaaGreatDoorRows
import GoSem.ClaimSeven
namespace Go.Proofs.YtfbfkoeaihknoaaGreatDoor
namespace Rows

/-- THE TIED CARD OF 'raddlelaw42.ShortestTexts'. -/
def shortestTextsCard : Claim7 := { stood := { row := shortestTextsRow, standIns := [], harness := (true, "e5f9bd0f772c11d510c8057603114c1f06b52d64d41fd05283189a068ebb2edc"), looks := true }, kinds := [], alts := [], laidByText := true, laidKinds := [.data, .data, .data, .data, .sentinel, .sentinel, .pinned], laidTests := true, laidLooks := .later }
def ShortestTextsCardSaid : Prop := Claim7.holds Tryz.pinned (.plain (OpenSpec.ofChange shortestTextsSpec)) shortestTextsCard

/-- THE TIED CARD OF 'raddlelaw42.ShortestTurns'. -/
def shortestTurnsCard : Claim7 := { stood := { row := shortestTurnsRow, standIns := [], harness := (true, "e5f9bd0f772c11d510c8057603114c1f06b52d64d41fd05283189a068ebb2edc"), looks := true }, kinds := [], alts := [], laidByText := true, laidKinds := [.data, .data, .data, .data, .sentinel, .sentinel, .pinned], laidTests := true, laidLooks := .later }
def ShortestTurnsCardSaid : Prop := Claim7.holds Tryz.pinned (.plain (OpenSpec.ofChange shortestTurnsSpec)) shortestTurnsCard

/-- THE TIED CARD OF 'raddlelaw42.ShortestJoins'. -/
def shortestJoinsCard : Claim7 := { stood := { row := shortestJoinsRow, standIns := [], harness := (true, "e5f9bd0f772c11d510c8057603114c1f06b52d64d41fd05283189a068ebb2edc"), looks := true }, kinds := [], alts := [], laidByText := true, laidKinds := [.data, .data, .data, .data, .sentinel, .sentinel, .pinned], laidTests := true, laidLooks := .later }
def ShortestJoinsCardSaid : Prop := Claim7.holds Tryz.pinned (.plain (OpenSpec.ofChange shortestJoinsSpec)) shortestJoinsCard

/-- THE TIED CARD OF 'raddlelaw42.ShortestBack'. -/
def shortestBackCard : Claim7 := { stood := { row := shortestBackRow, standIns := [], harness := (true, "e5f9bd0f772c11d510c8057603114c1f06b52d64d41fd05283189a068ebb2edc"), looks := true }, kinds := [], alts := [], laidByText := true, laidKinds := [.data, .data, .data, .data, .sentinel, .sentinel, .pinned], laidTests := true, laidLooks := .later }
def ShortestBackCardSaid : Prop := Claim7.holds Tryz.pinned (.plain (OpenSpec.ofChange shortestBackSpec)) shortestBackCard

/-- THE TIED CARD OF 'raddlelaw42.ShortestNames'. -/
def shortestNamesCard : Claim7 := { stood := { row := shortestNamesRow, standIns := [], harness := (true, "e5f9bd0f772c11d510c8057603114c1f06b52d64d41fd05283189a068ebb2edc"), looks := true }, kinds := [], alts := [], laidByText := true, laidKinds := [.data, .data, .data, .data, .sentinel, .sentinel, .pinned], laidTests := true, laidLooks := .later }
def ShortestNamesCardSaid : Prop := Claim7.holds Tryz.pinned (.plain (OpenSpec.ofChange shortestNamesSpec)) shortestNamesCard

/-- THE TIED CARD OF 'raddlelaw42.ShortestLeast'. -/
def shortestLeastCard : Claim7 := { stood := { row := shortestLeastRow, standIns := [], harness := (true, "e5f9bd0f772c11d510c8057603114c1f06b52d64d41fd05283189a068ebb2edc"), looks := true }, kinds := [], alts := [], laidByText := true, laidKinds := [.data, .data, .data, .data, .sentinel, .sentinel, .pinned], laidTests := true, laidLooks := .later }
def ShortestLeastCardSaid : Prop := Claim7.holds Tryz.pinned (.plain (OpenSpec.ofChange shortestLeastSpec)) shortestLeastCard

/-- THE SECOND FORM's CARD OF 'raddlelaw42.ShortestTexts'. -/
def shortestTextsUptoCard : Claim7 := { stood := { row := shortestTextsUptoRow, standIns := [], harness := (true, "e5f9bd0f772c11d510c8057603114c1f06b52d64d41fd05283189a068ebb2edc"), looks := true }, kinds := [], alts := [], laidByText := true, laidKinds := [.data, .data, .data, .data, .sentinel, .sentinel, .pinned], laidTests := true, laidLooks := .later }
def ShortestTextsUptoCardSaid : Prop := Claim7.holds Tryz.pinned (.plain (OpenSpec.upto shortestTextsSpec)) shortestTextsUptoCard

/-- THE SECOND FORM's CARD OF 'raddlelaw42.ShortestTurns'. -/
def shortestTurnsUptoCard : Claim7 := { stood := { row := shortestTurnsUptoRow, standIns := [], harness := (true, "e5f9bd0f772c11d510c8057603114c1f06b52d64d41fd05283189a068ebb2edc"), looks := true }, kinds := [], alts := [], laidByText := true, laidKinds := [.data, .data, .data, .data, .sentinel, .sentinel, .pinned], laidTests := true, laidLooks := .later }
def ShortestTurnsUptoCardSaid : Prop := Claim7.holds Tryz.pinned (.plain (OpenSpec.upto shortestTurnsSpec)) shortestTurnsUptoCard

/-- THE SECOND FORM's CARD OF 'raddlelaw42.ShortestJoins'. -/
def shortestJoinsUptoCard : Claim7 := { stood := { row := shortestJoinsUptoRow, standIns := [], harness := (true, "e5f9bd0f772c11d510c8057603114c1f06b52d64d41fd05283189a068ebb2edc"), looks := true }, kinds := [], alts := [], laidByText := true, laidKinds := [.data, .data, .data, .data, .sentinel, .sentinel, .pinned], laidTests := true, laidLooks := .later }
def ShortestJoinsUptoCardSaid : Prop := Claim7.holds Tryz.pinned (.plain (OpenSpec.upto shortestJoinsSpec)) shortestJoinsUptoCard

/-- THE SECOND FORM's CARD OF 'raddlelaw42.ShortestBack'. -/
def shortestBackUptoCard : Claim7 := { stood := { row := shortestBackUptoRow, standIns := [], harness := (true, "e5f9bd0f772c11d510c8057603114c1f06b52d64d41fd05283189a068ebb2edc"), looks := true }, kinds := [], alts := [], laidByText := true, laidKinds := [.data, .data, .data, .data, .sentinel, .sentinel, .pinned], laidTests := true, laidLooks := .later }
def ShortestBackUptoCardSaid : Prop := Claim7.holds Tryz.pinned (.plain (OpenSpec.upto shortestBackSpec)) shortestBackUptoCard

/-- THE SECOND FORM's CARD OF 'raddlelaw42.ShortestNames'. -/
def shortestNamesUptoCard : Claim7 := { stood := { row := shortestNamesUptoRow, standIns := [], harness := (true, "e5f9bd0f772c11d510c8057603114c1f06b52d64d41fd05283189a068ebb2edc"), looks := true }, kinds := [], alts := [], laidByText := true, laidKinds := [.data, .data, .data, .data, .sentinel, .sentinel, .pinned], laidTests := true, laidLooks := .later }
def ShortestNamesUptoCardSaid : Prop := Claim7.holds Tryz.pinned (.plain (OpenSpec.upto shortestNamesSpec)) shortestNamesUptoCard

/-- THE SECOND FORM's CARD OF 'raddlelaw42.ShortestLeast'. -/
def shortestLeastUptoCard : Claim7 := { stood := { row := shortestLeastUptoRow, standIns := [], harness := (true, "e5f9bd0f772c11d510c8057603114c1f06b52d64d41fd05283189a068ebb2edc"), looks := true }, kinds := [], alts := [], laidByText := true, laidKinds := [.data, .data, .data, .data, .sentinel, .sentinel, .pinned], laidTests := true, laidLooks := .later }
def ShortestLeastUptoCardSaid : Prop := Claim7.holds Tryz.pinned (.plain (OpenSpec.upto shortestLeastSpec)) shortestLeastUptoCard
end Rows
end Go.Proofs.YtfbfkoeaihknoaaGreatDoor
