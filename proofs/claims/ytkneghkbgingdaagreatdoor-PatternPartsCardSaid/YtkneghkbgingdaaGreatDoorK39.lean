/- The reference's term: its walk. -/
import Derived.Test.YtkneghkbgingdaaGreatDoorK38
import Derived.Deep.CutBlock
namespace Go.Proofs.YtkneghkbgingdaaGreatDoor
set_option maxRecDepth 100000
open Go.RowKit Go.ChangeShapes Go.WideShapes Go.Joins

end Go.Proofs.YtkneghkbgingdaaGreatDoor
