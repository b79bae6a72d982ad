/- Walks on the pure machine: votes. -/
import Derived.Test.YtmdjnohdkhepjaaDoorK1
import Derived.Test.YtmdjnohdkhepjaaDoorEqT
namespace Go.Proofs.YtmdjnohdkhepjaaDoor
set_option linter.unusedSimpArgs false
set_option linter.unusedVariables false
open Go.RowKit
set_option maxRecDepth 100000

end Go.Proofs.YtmdjnohdkhepjaaDoor
