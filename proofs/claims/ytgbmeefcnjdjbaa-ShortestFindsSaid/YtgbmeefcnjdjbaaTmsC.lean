/- The walk of the reference's Terms. -/
import Derived.Test.YtgbmeefcnjdjbaaTmsB
namespace Go.Proofs.Ytgbmeefcnjdjbaa
set_option maxRecDepth 100000
open Go.RowKit Go.ChangeShapes Go.WideShapes Go.Joins
end Go.Proofs.Ytgbmeefcnjdjbaa
