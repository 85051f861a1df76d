/- Closed facts of the row of ConsoleNames. -/
import Derived.Test.YtbjgpbojjhldaaaGreatDoorY33
import Derived.Test.YtbjgpbojjhldaaaGreatDoorCards
namespace Go.Proofs.YtbjgpbojjhldaaaGreatDoor
set_option maxRecDepth 100000
open Go.ChangeShapes Go.WideShapes Go.ChangeAt Go.RowKit Go.Joins
theorem zb2:joinedFacts Tryz.pinned.checked.prog 3 Tryz.f3 Rows.consoleNamesSpec Rows.consoleNamesRow=true:=by kernel_rfl
end Go.Proofs.YtbjgpbojjhldaaaGreatDoor
