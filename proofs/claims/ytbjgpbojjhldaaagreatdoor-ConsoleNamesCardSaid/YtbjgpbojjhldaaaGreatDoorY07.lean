/- The contracts of the reference of what counts. -/
import Derived.Test.YtbjgpbojjhldaaaGreatDoorY06
namespace Go.Proofs.YtbjgpbojjhldaaaGreatDoor
set_option maxRecDepth 100000
open Go.RowKit

end Go.Proofs.YtbjgpbojjhldaaaGreatDoor
