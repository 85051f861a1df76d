/- Closed facts of the card of ConsoleNames. -/
import Derived.Test.YtbjgpbojjhldaaaGreatDoorY33
import Derived.Test.YtbjgpbojjhldaaaGreatDoorCards
namespace Go.Proofs.YtbjgpbojjhldaaaGreatDoor
set_option maxRecDepth 100000
open Go.ChangeShapes Go.WideShapes Go.ChangeAt Go.RowKit Go.Joins
theorem zdg:Rows.consoleNamesRow.wfByText (OpenSpec.ofChange Rows.consoleNamesSpec)=true:=by kernel_rfl
theorem zcu:false=Rows.consoleNamesRow.goesBy Tryz.pinned.checked.prog:=by kernel_rfl
end Go.Proofs.YtbjgpbojjhldaaaGreatDoor
