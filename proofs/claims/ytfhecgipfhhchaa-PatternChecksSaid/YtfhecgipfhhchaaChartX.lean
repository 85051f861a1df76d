/- The contract of the reference's Join of charts. -/
import Derived.Test.YtfhecgipfhhchaaChartW
namespace Go.Proofs.Ytfhecgipfhhchaa
set_option maxRecDepth 100000
open Go.RowKit Go.ChangeShapes Go.WideShapes Go.Joins
end Go.Proofs.Ytfhecgipfhhchaa
