/- The contracts of Uses, Makes and Same of stitch, and of the reference of what counts. -/
import Derived.Test.YtgbmeefcnjdjbaaStitchB
namespace Go.Proofs.Ytgbmeefcnjdjbaa
set_option maxRecDepth 100000
open Go.RowKit
attribute [local go_sem] run_equalIn_st

end Go.Proofs.Ytgbmeefcnjdjbaa
