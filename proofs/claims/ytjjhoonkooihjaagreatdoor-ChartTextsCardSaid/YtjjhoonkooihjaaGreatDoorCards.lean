/-
  DERIVED. GIVEN WITH THE SEED: THE CARDS: each row of YtjjhoonkooihjaaGreatDoorRows.lean that lists a variable, with what it lists TIED to the program's text (the seventh form; the later family's looks); each row that meets fmt, with fmt's text TOLD by the authors' own Lean function (tested against real Go, not proved from fmt's source: count such statements apart). THE CARD IS WHAT COUNTS. Prove the row's statement (the work); the ties are given (YtjjhoonkooihjaaGreatDoorTie.lean); close each card by the builder's one call (the guide's Derived/Test/ToyasCard.lean, 'card_holds'). Laid BY PROGRAM, IN A SANDBOX (cutbox-door.mjs). By AI agents, Wed Nov 11 2026. No macro, syntax, notation, axiom, sorry.
-/
import Derived.Test.YtjjhoonkooihjaaGreatDoorRows
import GoSem.ClaimSeven
namespace Go.Proofs.YtjjhoonkooihjaaGreatDoor
namespace Rows

/-- THE TIED CARD OF 'raddlelaw26.ChartTexts'. -/
def chartTextsCard : Claim7 := { stood := { row := chartTextsRow, standIns := [], harness := (true, "39bfa126c88c4eab7a3d93e3b80aed671d612458207461505dfa1022f9959405"), looks := true }, kinds := [], alts := [], laidByText := true, laidKinds := [.data, .data, .data, .data, .sentinel, .sentinel, .pinned], laidTests := true, laidLooks := .later }
def ChartTextsCardSaid : Prop := Claim7.holds Tryz.pinned (.plain (OpenSpec.ofChange chartTextsSpec)) chartTextsCard

/-- THE TIED CARD OF 'raddlelaw26.ChartFits'. -/
def chartFitsCard : Claim7 := { stood := { row := chartFitsRow, standIns := [], harness := (true, "39bfa126c88c4eab7a3d93e3b80aed671d612458207461505dfa1022f9959405"), looks := true }, kinds := [], alts := [], laidByText := true, laidKinds := [.data, .data, .data, .data, .sentinel, .sentinel, .pinned], laidTests := true, laidLooks := .later }
def ChartFitsCardSaid : Prop := Claim7.holds Tryz.pinned (.plain (OpenSpec.ofChange chartFitsSpec)) chartFitsCard

/-- THE TIED CARD OF 'raddlelaw26.ChartFlips'. -/
def chartFlipsCard : Claim7 := { stood := { row := chartFlipsRow, standIns := [], harness := (true, "39bfa126c88c4eab7a3d93e3b80aed671d612458207461505dfa1022f9959405"), looks := true }, kinds := [], alts := [], laidByText := true, laidKinds := [.data, .data, .data, .data, .sentinel, .sentinel, .pinned], laidTests := true, laidLooks := .later }
def ChartFlipsCardSaid : Prop := Claim7.holds Tryz.pinned (.plain (OpenSpec.ofChange chartFlipsSpec)) chartFlipsCard

/-- THE TIED CARD OF 'raddlelaw26.ChartBack'. -/
def chartBackCard : Claim7 := { stood := { row := chartBackRow, standIns := [], harness := (true, "39bfa126c88c4eab7a3d93e3b80aed671d612458207461505dfa1022f9959405"), looks := true }, kinds := [], alts := [], laidByText := true, laidKinds := [.data, .data, .data, .data, .sentinel, .sentinel, .pinned], laidTests := true, laidLooks := .later }
def ChartBackCardSaid : Prop := Claim7.holds Tryz.pinned (.plain (OpenSpec.ofChange chartBackSpec)) chartBackCard

/-- THE TIED CARD OF 'raddlelaw26.ChartNames'. -/
def chartNamesCard : Claim7 := { stood := { row := chartNamesRow, standIns := [], harness := (true, "39bfa126c88c4eab7a3d93e3b80aed671d612458207461505dfa1022f9959405"), looks := true }, kinds := [], alts := [], laidByText := true, laidKinds := [.data, .data, .data, .data, .sentinel, .sentinel, .pinned], laidTests := true, laidLooks := .later }
def ChartNamesCardSaid : Prop := Claim7.holds Tryz.pinned (.plain (OpenSpec.ofChange chartNamesSpec)) chartNamesCard

/-- THE TIED CARD OF 'raddlelaw26.ChartParts'. -/
def chartPartsCard : Claim7 := { stood := { row := chartPartsRow, standIns := [], harness := (true, "39bfa126c88c4eab7a3d93e3b80aed671d612458207461505dfa1022f9959405"), looks := true }, kinds := [], alts := [], laidByText := true, laidKinds := [.data, .data, .data, .data, .sentinel, .sentinel, .pinned], laidTests := true, laidLooks := .later }
def ChartPartsCardSaid : Prop := Claim7.holds Tryz.pinned (.plain (OpenSpec.ofChange chartPartsSpec)) chartPartsCard

/-- THE SECOND FORM's CARD OF 'raddlelaw26.ChartTexts'. -/
def chartTextsUptoCard : Claim7 := { stood := { row := chartTextsUptoRow, standIns := [], harness := (true, "39bfa126c88c4eab7a3d93e3b80aed671d612458207461505dfa1022f9959405"), looks := true }, kinds := [], alts := [], laidByText := true, laidKinds := [.data, .data, .data, .data, .sentinel, .sentinel, .pinned], laidTests := true, laidLooks := .later }
def ChartTextsUptoCardSaid : Prop := Claim7.holds Tryz.pinned (.plain (OpenSpec.upto chartTextsSpec)) chartTextsUptoCard

/-- THE SECOND FORM's CARD OF 'raddlelaw26.ChartFits'. -/
def chartFitsUptoCard : Claim7 := { stood := { row := chartFitsUptoRow, standIns := [], harness := (true, "39bfa126c88c4eab7a3d93e3b80aed671d612458207461505dfa1022f9959405"), looks := true }, kinds := [], alts := [], laidByText := true, laidKinds := [.data, .data, .data, .data, .sentinel, .sentinel, .pinned], laidTests := true, laidLooks := .later }
def ChartFitsUptoCardSaid : Prop := Claim7.holds Tryz.pinned (.plain (OpenSpec.upto chartFitsSpec)) chartFitsUptoCard

/-- THE SECOND FORM's CARD OF 'raddlelaw26.ChartFlips'. -/
def chartFlipsUptoCard : Claim7 := { stood := { row := chartFlipsUptoRow, standIns := [], harness := (true, "39bfa126c88c4eab7a3d93e3b80aed671d612458207461505dfa1022f9959405"), looks := true }, kinds := [], alts := [], laidByText := true, laidKinds := [.data, .data, .data, .data, .sentinel, .sentinel, .pinned], laidTests := true, laidLooks := .later }
def ChartFlipsUptoCardSaid : Prop := Claim7.holds Tryz.pinned (.plain (OpenSpec.upto chartFlipsSpec)) chartFlipsUptoCard

/-- THE SECOND FORM's CARD OF 'raddlelaw26.ChartBack'. -/
def chartBackUptoCard : Claim7 := { stood := { row := chartBackUptoRow, standIns := [], harness := (true, "39bfa126c88c4eab7a3d93e3b80aed671d612458207461505dfa1022f9959405"), looks := true }, kinds := [], alts := [], laidByText := true, laidKinds := [.data, .data, .data, .data, .sentinel, .sentinel, .pinned], laidTests := true, laidLooks := .later }
def ChartBackUptoCardSaid : Prop := Claim7.holds Tryz.pinned (.plain (OpenSpec.upto chartBackSpec)) chartBackUptoCard

/-- THE SECOND FORM's CARD OF 'raddlelaw26.ChartNames'. -/
def chartNamesUptoCard : Claim7 := { stood := { row := chartNamesUptoRow, standIns := [], harness := (true, "39bfa126c88c4eab7a3d93e3b80aed671d612458207461505dfa1022f9959405"), looks := true }, kinds := [], alts := [], laidByText := true, laidKinds := [.data, .data, .data, .data, .sentinel, .sentinel, .pinned], laidTests := true, laidLooks := .later }
def ChartNamesUptoCardSaid : Prop := Claim7.holds Tryz.pinned (.plain (OpenSpec.upto chartNamesSpec)) chartNamesUptoCard

/-- THE SECOND FORM's CARD OF 'raddlelaw26.ChartParts'. -/
def chartPartsUptoCard : Claim7 := { stood := { row := chartPartsUptoRow, standIns := [], harness := (true, "39bfa126c88c4eab7a3d93e3b80aed671d612458207461505dfa1022f9959405"), looks := true }, kinds := [], alts := [], laidByText := true, laidKinds := [.data, .data, .data, .data, .sentinel, .sentinel, .pinned], laidTests := true, laidLooks := .later }
def ChartPartsUptoCardSaid : Prop := Claim7.holds Tryz.pinned (.plain (OpenSpec.upto chartPartsSpec)) chartPartsUptoCard
end Rows
end Go.Proofs.YtjjhoonkooihjaaGreatDoor
