/- The reference's list of terms: its walk. -/
import Derived.Test.YtkneghkbgingdaaGreatDoorK39
namespace Go.Proofs.YtkneghkbgingdaaGreatDoor
set_option maxRecDepth 100000
open Go.RowKit Go.ChangeShapes Go.WideShapes Go.Joins

end Go.Proofs.YtkneghkbgingdaaGreatDoor
