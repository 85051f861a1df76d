/-
  DERIVED. GIVEN WITH THE SEED: THE CARDS: each row of YtpcefmopoceiiaaDoorRows.lean that lists a variable, with what it lists TIED to the program's text (the seventh form; the later family's looks); each row that meets fmt, with fmt's text TOLD by the authors' own Lean function (tested against real Go, not proved from fmt's source: count such statements apart). THE CARD IS WHAT COUNTS. Prove the row's statement (the work); the ties are given (YtpcefmopoceiiaaDoorTie.lean); close each card by the builder's one call (the guide's Derived/Test/ToyasCard.lean, 'card_holds'). Laid BY PROGRAM, IN A SANDBOX (cutbox-door.mjs). By AI agents, Wed Nov 11 2026. No macro, syntax, notation, axiom, sorry.
-/
import Derived.Test.YtpcefmopoceiiaaDoorRows
import GoSem.ClaimSeven
namespace Go.Proofs.YtpcefmopoceiiaaDoor
namespace Rows

/-- THE TIED CARD OF 'raddlelaw25.StitchNames'. -/
def stitchNamesCard : Claim7 := { stood := { row := stitchNamesRow, standIns := [], harness := (true, "b30b9956a0e476c9c38fc7de0fb13095e71481363dba7d65da5ce99ee671de54"), looks := true }, kinds := [], alts := [], laidByText := true, laidKinds := [.data, .data, .data, .data, .sentinel, .sentinel, .pinned], laidTests := true, laidLooks := .later }
def StitchNamesCardSaid : Prop := Claim7.holds Tryd.pinned (.plain (OpenSpec.ofChange stitchNamesSpec)) stitchNamesCard

/-- THE TIED CARD OF 'raddlelaw25.StitchTurns'. -/
def stitchTurnsCard : Claim7 := { stood := { row := stitchTurnsRow, standIns := [], harness := (true, "b30b9956a0e476c9c38fc7de0fb13095e71481363dba7d65da5ce99ee671de54"), looks := true }, kinds := [], alts := [], laidByText := true, laidKinds := [.data, .data, .data, .data, .sentinel, .sentinel, .pinned], laidTests := true, laidLooks := .later }
def StitchTurnsCardSaid : Prop := Claim7.holds Tryd.pinned (.plain (OpenSpec.ofChange stitchTurnsSpec)) stitchTurnsCard

/-- THE TIED CARD OF 'raddlelaw25.StitchSums'. -/
def stitchSumsCard : Claim7 := { stood := { row := stitchSumsRow, standIns := [], harness := (true, "b30b9956a0e476c9c38fc7de0fb13095e71481363dba7d65da5ce99ee671de54"), looks := true }, kinds := [], alts := [], laidByText := true, laidKinds := [.data, .data, .data, .data, .sentinel, .sentinel, .pinned], laidTests := true, laidLooks := .later }
def StitchSumsCardSaid : Prop := Claim7.holds Tryd.pinned (.plain (OpenSpec.ofChange stitchSumsSpec)) stitchSumsCard

/-- THE TIED CARD OF 'raddlelaw25.StitchBack'. -/
def stitchBackCard : Claim7 := { stood := { row := stitchBackRow, standIns := [], harness := (true, "b30b9956a0e476c9c38fc7de0fb13095e71481363dba7d65da5ce99ee671de54"), looks := true }, kinds := [], alts := [], laidByText := true, laidKinds := [.data, .data, .data, .data, .sentinel, .sentinel, .pinned], laidTests := true, laidLooks := .later }
def StitchBackCardSaid : Prop := Claim7.holds Tryd.pinned (.plain (OpenSpec.ofChange stitchBackSpec)) stitchBackCard

/-- THE SECOND FORM's CARD OF 'raddlelaw25.StitchNames'. -/
def stitchNamesUptoCard : Claim7 := { stood := { row := stitchNamesUptoRow, standIns := [], harness := (true, "b30b9956a0e476c9c38fc7de0fb13095e71481363dba7d65da5ce99ee671de54"), looks := true }, kinds := [], alts := [], laidByText := true, laidKinds := [.data, .data, .data, .data, .sentinel, .sentinel, .pinned], laidTests := true, laidLooks := .later }
def StitchNamesUptoCardSaid : Prop := Claim7.holds Tryd.pinned (.plain (OpenSpec.upto stitchNamesSpec)) stitchNamesUptoCard

/-- THE SECOND FORM's CARD OF 'raddlelaw25.StitchTurns'. -/
def stitchTurnsUptoCard : Claim7 := { stood := { row := stitchTurnsUptoRow, standIns := [], harness := (true, "b30b9956a0e476c9c38fc7de0fb13095e71481363dba7d65da5ce99ee671de54"), looks := true }, kinds := [], alts := [], laidByText := true, laidKinds := [.data, .data, .data, .data, .sentinel, .sentinel, .pinned], laidTests := true, laidLooks := .later }
def StitchTurnsUptoCardSaid : Prop := Claim7.holds Tryd.pinned (.plain (OpenSpec.upto stitchTurnsSpec)) stitchTurnsUptoCard

/-- THE SECOND FORM's CARD OF 'raddlelaw25.StitchSums'. -/
def stitchSumsUptoCard : Claim7 := { stood := { row := stitchSumsUptoRow, standIns := [], harness := (true, "b30b9956a0e476c9c38fc7de0fb13095e71481363dba7d65da5ce99ee671de54"), looks := true }, kinds := [], alts := [], laidByText := true, laidKinds := [.data, .data, .data, .data, .sentinel, .sentinel, .pinned], laidTests := true, laidLooks := .later }
def StitchSumsUptoCardSaid : Prop := Claim7.holds Tryd.pinned (.plain (OpenSpec.upto stitchSumsSpec)) stitchSumsUptoCard

/-- THE SECOND FORM's CARD OF 'raddlelaw25.StitchBack'. -/
def stitchBackUptoCard : Claim7 := { stood := { row := stitchBackUptoRow, standIns := [], harness := (true, "b30b9956a0e476c9c38fc7de0fb13095e71481363dba7d65da5ce99ee671de54"), looks := true }, kinds := [], alts := [], laidByText := true, laidKinds := [.data, .data, .data, .data, .sentinel, .sentinel, .pinned], laidTests := true, laidLooks := .later }
def StitchBackUptoCardSaid : Prop := Claim7.holds Tryd.pinned (.plain (OpenSpec.upto stitchBackSpec)) stitchBackUptoCard
end Rows
end Go.Proofs.YtpcefmopoceiiaaDoor
