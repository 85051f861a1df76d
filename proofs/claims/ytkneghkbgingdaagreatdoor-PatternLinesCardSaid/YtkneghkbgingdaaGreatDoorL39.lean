/- The reference's term: its walk. -/
import Derived.Test.YtkneghkbgingdaaGreatDoorL38
import Derived.Deep.CutBlock
import Derived.Deep.DeepCutAuto
namespace Go.Proofs.YtkneghkbgingdaaGreatDoor
set_option maxRecDepth 100000
open Go.RowKit Go.ChangeShapes Go.WideShapes Go.Joins

end Go.Proofs.YtkneghkbgingdaaGreatDoor
