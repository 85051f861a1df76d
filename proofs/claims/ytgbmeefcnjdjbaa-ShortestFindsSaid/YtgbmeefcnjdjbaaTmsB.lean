/- The walks of the reference's Deep. -/
import Derived.Test.YtgbmeefcnjdjbaaTmsA
namespace Go.Proofs.Ytgbmeefcnjdjbaa
set_option maxRecDepth 100000
open Go.RowKit Go.ChangeShapes Go.WideShapes Go.Joins
end Go.Proofs.Ytgbmeefcnjdjbaa
