/-
  DERIVED. GIVEN WITH THE SEED: THE CARDS: each row of YtkneghkbgingdaaGreatDoorRows.lean that lists a variable, with what it lists TIED to the program's text (the seventh form; the later family's looks); each row that meets fmt, with fmt's text TOLD by the authors' own Lean function (tested against real Go, not proved from fmt's source: count such statements apart). THE CARD IS WHAT COUNTS. Prove the row's statement (the work); the ties are given (YtkneghkbgingdaaGreatDoorTie.lean); close each card by the builder's one call (the guide's Derived/Test/ToyasCard.lean, 'card_holds'). Laid BY PROGRAM, IN A SANDBOX (cutbox-door.mjs). By AI agents, Wed Nov 11 2026. No macro, syntax, notation, axiom, sorry.
-/
import Derived.Test.YtkneghkbgingdaaGreatDoorRows
import GoSem.ClaimSeven
namespace Go.Proofs.YtkneghkbgingdaaGreatDoor
namespace Rows

/-- THE TIED CARD OF 'raddlelaw43.PatternRows'. -/
def patternRowsCard : Claim7 := { stood := { row := patternRowsRow, standIns := [], harness := (true, "82ac2ac690227137bd2922f134a4e9e2379fe122be6281254703ee86f1f41d35"), looks := true }, kinds := [], alts := [], laidByText := true, laidKinds := [.data, .data, .data, .data, .sentinel, .sentinel, .pinned], laidTests := true, laidLooks := .later }
def PatternRowsCardSaid : Prop := Claim7.holds Tryz.pinned (.plain (OpenSpec.ofChange patternRowsSpec)) patternRowsCard

/-- THE TIED CARD OF 'raddlelaw43.PatternTexts'. -/
def patternTextsCard : Claim7 := { stood := { row := patternTextsRow, standIns := [], harness := (true, "82ac2ac690227137bd2922f134a4e9e2379fe122be6281254703ee86f1f41d35"), looks := true }, kinds := [], alts := [], laidByText := true, laidKinds := [.data, .data, .data, .data, .sentinel, .sentinel, .pinned], laidTests := true, laidLooks := .later }
def PatternTextsCardSaid : Prop := Claim7.holds Tryz.pinned (.plain (OpenSpec.ofChange patternTextsSpec)) patternTextsCard

/-- THE TIED CARD OF 'raddlelaw43.PatternNames'. -/
def patternNamesCard : Claim7 := { stood := { row := patternNamesRow, standIns := [], harness := (true, "82ac2ac690227137bd2922f134a4e9e2379fe122be6281254703ee86f1f41d35"), looks := true }, kinds := [], alts := [], laidByText := true, laidKinds := [.data, .data, .data, .data, .sentinel, .sentinel, .pinned], laidTests := true, laidLooks := .later }
def PatternNamesCardSaid : Prop := Claim7.holds Tryz.pinned (.plain (OpenSpec.ofChange patternNamesSpec)) patternNamesCard

/-- THE TIED CARD OF 'raddlelaw43.PatternBack'. -/
def patternBackCard : Claim7 := { stood := { row := patternBackRow, standIns := [], harness := (true, "82ac2ac690227137bd2922f134a4e9e2379fe122be6281254703ee86f1f41d35"), looks := true }, kinds := [], alts := [], laidByText := true, laidKinds := [.data, .data, .data, .data, .sentinel, .sentinel, .pinned], laidTests := true, laidLooks := .later }
def PatternBackCardSaid : Prop := Claim7.holds Tryz.pinned (.plain (OpenSpec.ofChange patternBackSpec)) patternBackCard

/-- THE TIED CARD OF 'raddlelaw43.PatternLines'. -/
def patternLinesCard : Claim7 := { stood := { row := patternLinesRow, standIns := [], harness := (true, "82ac2ac690227137bd2922f134a4e9e2379fe122be6281254703ee86f1f41d35"), looks := true }, kinds := [], alts := [], laidByText := true, laidKinds := [.data, .data, .data, .data, .sentinel, .sentinel, .pinned], laidTests := true, laidLooks := .later }
def PatternLinesCardSaid : Prop := Claim7.holds Tryz.pinned (.plain (OpenSpec.ofChange patternLinesSpec)) patternLinesCard

/-- THE TIED CARD OF 'raddlelaw43.PatternParts'. -/
def patternPartsCard : Claim7 := { stood := { row := patternPartsRow, standIns := [], harness := (true, "82ac2ac690227137bd2922f134a4e9e2379fe122be6281254703ee86f1f41d35"), looks := true }, kinds := [], alts := [], laidByText := true, laidKinds := [.data, .data, .data, .data, .sentinel, .sentinel, .pinned], laidTests := true, laidLooks := .later }
def PatternPartsCardSaid : Prop := Claim7.holds Tryz.pinned (.plain (OpenSpec.ofChange patternPartsSpec)) patternPartsCard

/-- THE SECOND FORM's CARD OF 'raddlelaw43.PatternRows'. -/
def patternRowsUptoCard : Claim7 := { stood := { row := patternRowsUptoRow, standIns := [], harness := (true, "82ac2ac690227137bd2922f134a4e9e2379fe122be6281254703ee86f1f41d35"), looks := true }, kinds := [], alts := [], laidByText := true, laidKinds := [.data, .data, .data, .data, .sentinel, .sentinel, .pinned], laidTests := true, laidLooks := .later }
def PatternRowsUptoCardSaid : Prop := Claim7.holds Tryz.pinned (.plain (OpenSpec.upto patternRowsSpec)) patternRowsUptoCard

/-- THE SECOND FORM's CARD OF 'raddlelaw43.PatternTexts'. -/
def patternTextsUptoCard : Claim7 := { stood := { row := patternTextsUptoRow, standIns := [], harness := (true, "82ac2ac690227137bd2922f134a4e9e2379fe122be6281254703ee86f1f41d35"), looks := true }, kinds := [], alts := [], laidByText := true, laidKinds := [.data, .data, .data, .data, .sentinel, .sentinel, .pinned], laidTests := true, laidLooks := .later }
def PatternTextsUptoCardSaid : Prop := Claim7.holds Tryz.pinned (.plain (OpenSpec.upto patternTextsSpec)) patternTextsUptoCard

/-- THE SECOND FORM's CARD OF 'raddlelaw43.PatternNames'. -/
def patternNamesUptoCard : Claim7 := { stood := { row := patternNamesUptoRow, standIns := [], harness := (true, "82ac2ac690227137bd2922f134a4e9e2379fe122be6281254703ee86f1f41d35"), looks := true }, kinds := [], alts := [], laidByText := true, laidKinds := [.data, .data, .data, .data, .sentinel, .sentinel, .pinned], laidTests := true, laidLooks := .later }
def PatternNamesUptoCardSaid : Prop := Claim7.holds Tryz.pinned (.plain (OpenSpec.upto patternNamesSpec)) patternNamesUptoCard

/-- THE SECOND FORM's CARD OF 'raddlelaw43.PatternBack'. -/
def patternBackUptoCard : Claim7 := { stood := { row := patternBackUptoRow, standIns := [], harness := (true, "82ac2ac690227137bd2922f134a4e9e2379fe122be6281254703ee86f1f41d35"), looks := true }, kinds := [], alts := [], laidByText := true, laidKinds := [.data, .data, .data, .data, .sentinel, .sentinel, .pinned], laidTests := true, laidLooks := .later }
def PatternBackUptoCardSaid : Prop := Claim7.holds Tryz.pinned (.plain (OpenSpec.upto patternBackSpec)) patternBackUptoCard

/-- THE SECOND FORM's CARD OF 'raddlelaw43.PatternLines'. -/
def patternLinesUptoCard : Claim7 := { stood := { row := patternLinesUptoRow, standIns := [], harness := (true, "82ac2ac690227137bd2922f134a4e9e2379fe122be6281254703ee86f1f41d35"), looks := true }, kinds := [], alts := [], laidByText := true, laidKinds := [.data, .data, .data, .data, .sentinel, .sentinel, .pinned], laidTests := true, laidLooks := .later }
def PatternLinesUptoCardSaid : Prop := Claim7.holds Tryz.pinned (.plain (OpenSpec.upto patternLinesSpec)) patternLinesUptoCard

/-- THE SECOND FORM's CARD OF 'raddlelaw43.PatternParts'. -/
def patternPartsUptoCard : Claim7 := { stood := { row := patternPartsUptoRow, standIns := [], harness := (true, "82ac2ac690227137bd2922f134a4e9e2379fe122be6281254703ee86f1f41d35"), looks := true }, kinds := [], alts := [], laidByText := true, laidKinds := [.data, .data, .data, .data, .sentinel, .sentinel, .pinned], laidTests := true, laidLooks := .later }
def PatternPartsUptoCardSaid : Prop := Claim7.holds Tryz.pinned (.plain (OpenSpec.upto patternPartsSpec)) patternPartsUptoCard
end Rows
end Go.Proofs.YtkneghkbgingdaaGreatDoor
