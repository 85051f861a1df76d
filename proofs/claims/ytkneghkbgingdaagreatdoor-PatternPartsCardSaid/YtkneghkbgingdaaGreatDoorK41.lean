/- The reference's Written and Text of a list of terms. -/
import Derived.Test.YtkneghkbgingdaaGreatDoorK29
namespace Go.Proofs.YtkneghkbgingdaaGreatDoor
set_option maxRecDepth 100000
open Go.RowKit Go.ChangeShapes Go.WideShapes Go.Joins

end Go.Proofs.YtkneghkbgingdaaGreatDoor
