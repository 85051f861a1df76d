/-
  DERIVED. GIVEN WITH THE SEED: THE CARDS: each row of YtbjgpbojjhldaaaGreatDoorRows.lean that lists a variable, with what it lists TIED to the program's text (the seventh form; the later family's looks); each row that meets fmt, with fmt's text TOLD by the authors' own Lean function (tested against real Go, not proved from fmt's source: count such statements apart). THE CARD IS WHAT COUNTS. Prove the row's statement (the work); the ties are given (YtbjgpbojjhldaaaGreatDoorTie.lean); close each card by the builder's one call (the guide's Derived/Test/ToyasCard.lean, 'card_holds'). Laid BY PROGRAM, IN A SANDBOX (cutbox-door.mjs). By AI agents, Wed Nov 11 2026. No macro, syntax, notation, axiom, sorry.
-/
import Derived.Test.YtbjgpbojjhldaaaGreatDoorRows
import GoSem.ClaimSeven
namespace Go.Proofs.YtbjgpbojjhldaaaGreatDoor
namespace Rows

/-- THE TIED CARD OF 'raddlelaw47.ConsoleNames'. -/
def consoleNamesCard : Claim7 := { stood := { row := consoleNamesRow, standIns := [], harness := (true, "a62441d66c0d9b08441207c673b8f979950b30dccc7a150413ef18ba549d6e48"), looks := true }, kinds := [], alts := [], laidByText := true, laidKinds := [.data, .data, .data, .data, .sentinel, .sentinel, .pinned], laidTests := true, laidLooks := .later }
def ConsoleNamesCardSaid : Prop := Claim7.holds Tryz.pinned (.plain (OpenSpec.ofChange consoleNamesSpec)) consoleNamesCard

/-- THE TIED CARD OF 'raddlelaw47.ConsolePrefix'. -/
def consolePrefixCard : Claim7 := { stood := { row := consolePrefixRow, standIns := [], harness := (true, "a62441d66c0d9b08441207c673b8f979950b30dccc7a150413ef18ba549d6e48"), looks := true }, kinds := [], alts := [], laidByText := true, laidKinds := [.data, .data, .data, .data, .sentinel, .sentinel, .pinned], laidTests := true, laidLooks := .later }
def ConsolePrefixCardSaid : Prop := Claim7.holds Tryz.pinned (.plain (OpenSpec.ofChange consolePrefixSpec)) consolePrefixCard

/-- THE TIED CARD OF 'raddlelaw47.ConsoleErrors'. -/
def consoleErrorsCard : Claim7 := { stood := { row := consoleErrorsRow, standIns := [], harness := (true, "a62441d66c0d9b08441207c673b8f979950b30dccc7a150413ef18ba549d6e48"), looks := true }, kinds := [], alts := [], laidByText := true, laidKinds := [.data, .data, .data, .data, .sentinel, .sentinel, .pinned], laidTests := true, laidLooks := .later }
def ConsoleErrorsCardSaid : Prop := Claim7.holds Tryz.pinned (.plain (OpenSpec.ofChange consoleErrorsSpec)) consoleErrorsCard

/-- THE TIED CARD OF 'raddlelaw47.ConsoleGauge'. -/
def consoleGaugeCard : Claim7 := { stood := { row := consoleGaugeRow, standIns := [], harness := (true, "a62441d66c0d9b08441207c673b8f979950b30dccc7a150413ef18ba549d6e48"), looks := true }, kinds := [], alts := [], laidByText := true, laidKinds := [.data, .data, .data, .data, .sentinel, .sentinel, .pinned], laidTests := true, laidLooks := .later }
def ConsoleGaugeCardSaid : Prop := Claim7.holds Tryz.pinned (.plain (OpenSpec.ofChange consoleGaugeSpec)) consoleGaugeCard

/-- THE TIED CARD OF 'raddlelaw47.ConsoleCells'. -/
def consoleCellsCard : Claim7 := { stood := { row := consoleCellsRow, standIns := [], harness := (true, "a62441d66c0d9b08441207c673b8f979950b30dccc7a150413ef18ba549d6e48"), looks := true }, kinds := [], alts := [], laidByText := true, laidKinds := [.data, .data, .data, .data, .sentinel, .sentinel, .pinned], laidTests := true, laidLooks := .later }
def ConsoleCellsCardSaid : Prop := Claim7.holds Tryz.pinned (.plain (OpenSpec.ofChange consoleCellsSpec)) consoleCellsCard

/-- THE TIED CARD OF 'raddlelaw47.ConsoleCloth'. -/
def consoleClothCard : Claim7 := { stood := { row := consoleClothRow, standIns := [], harness := (true, "a62441d66c0d9b08441207c673b8f979950b30dccc7a150413ef18ba549d6e48"), looks := true }, kinds := [], alts := [], laidByText := true, laidKinds := [.data, .data, .data, .data, .sentinel, .sentinel, .pinned], laidTests := true, laidLooks := .later }
def ConsoleClothCardSaid : Prop := Claim7.holds Tryz.pinned (.plain (OpenSpec.ofChange consoleClothSpec)) consoleClothCard

/-- THE SECOND FORM's CARD OF 'raddlelaw47.ConsoleNames'. -/
def consoleNamesUptoCard : Claim7 := { stood := { row := consoleNamesUptoRow, standIns := [], harness := (true, "a62441d66c0d9b08441207c673b8f979950b30dccc7a150413ef18ba549d6e48"), looks := true }, kinds := [], alts := [], laidByText := true, laidKinds := [.data, .data, .data, .data, .sentinel, .sentinel, .pinned], laidTests := true, laidLooks := .later }
def ConsoleNamesUptoCardSaid : Prop := Claim7.holds Tryz.pinned (.plain (OpenSpec.upto consoleNamesSpec)) consoleNamesUptoCard

/-- THE SECOND FORM's CARD OF 'raddlelaw47.ConsolePrefix'. -/
def consolePrefixUptoCard : Claim7 := { stood := { row := consolePrefixUptoRow, standIns := [], harness := (true, "a62441d66c0d9b08441207c673b8f979950b30dccc7a150413ef18ba549d6e48"), looks := true }, kinds := [], alts := [], laidByText := true, laidKinds := [.data, .data, .data, .data, .sentinel, .sentinel, .pinned], laidTests := true, laidLooks := .later }
def ConsolePrefixUptoCardSaid : Prop := Claim7.holds Tryz.pinned (.plain (OpenSpec.upto consolePrefixSpec)) consolePrefixUptoCard

/-- THE SECOND FORM's CARD OF 'raddlelaw47.ConsoleErrors'. -/
def consoleErrorsUptoCard : Claim7 := { stood := { row := consoleErrorsUptoRow, standIns := [], harness := (true, "a62441d66c0d9b08441207c673b8f979950b30dccc7a150413ef18ba549d6e48"), looks := true }, kinds := [], alts := [], laidByText := true, laidKinds := [.data, .data, .data, .data, .sentinel, .sentinel, .pinned], laidTests := true, laidLooks := .later }
def ConsoleErrorsUptoCardSaid : Prop := Claim7.holds Tryz.pinned (.plain (OpenSpec.upto consoleErrorsSpec)) consoleErrorsUptoCard

/-- THE SECOND FORM's CARD OF 'raddlelaw47.ConsoleGauge'. -/
def consoleGaugeUptoCard : Claim7 := { stood := { row := consoleGaugeUptoRow, standIns := [], harness := (true, "a62441d66c0d9b08441207c673b8f979950b30dccc7a150413ef18ba549d6e48"), looks := true }, kinds := [], alts := [], laidByText := true, laidKinds := [.data, .data, .data, .data, .sentinel, .sentinel, .pinned], laidTests := true, laidLooks := .later }
def ConsoleGaugeUptoCardSaid : Prop := Claim7.holds Tryz.pinned (.plain (OpenSpec.upto consoleGaugeSpec)) consoleGaugeUptoCard

/-- THE SECOND FORM's CARD OF 'raddlelaw47.ConsoleCells'. -/
def consoleCellsUptoCard : Claim7 := { stood := { row := consoleCellsUptoRow, standIns := [], harness := (true, "a62441d66c0d9b08441207c673b8f979950b30dccc7a150413ef18ba549d6e48"), looks := true }, kinds := [], alts := [], laidByText := true, laidKinds := [.data, .data, .data, .data, .sentinel, .sentinel, .pinned], laidTests := true, laidLooks := .later }
def ConsoleCellsUptoCardSaid : Prop := Claim7.holds Tryz.pinned (.plain (OpenSpec.upto consoleCellsSpec)) consoleCellsUptoCard

/-- THE SECOND FORM's CARD OF 'raddlelaw47.ConsoleCloth'. -/
def consoleClothUptoCard : Claim7 := { stood := { row := consoleClothUptoRow, standIns := [], harness := (true, "a62441d66c0d9b08441207c673b8f979950b30dccc7a150413ef18ba549d6e48"), looks := true }, kinds := [], alts := [], laidByText := true, laidKinds := [.data, .data, .data, .data, .sentinel, .sentinel, .pinned], laidTests := true, laidLooks := .later }
def ConsoleClothUptoCardSaid : Prop := Claim7.holds Tryz.pinned (.plain (OpenSpec.upto consoleClothSpec)) consoleClothUptoCard
end Rows
end Go.Proofs.YtbjgpbojjhldaaaGreatDoor
