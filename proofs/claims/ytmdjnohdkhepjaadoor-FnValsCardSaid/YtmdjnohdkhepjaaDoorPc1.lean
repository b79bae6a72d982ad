/- Walks on the pure machine: headers, votes, trust. -/
import Derived.Test.YtmdjnohdkhepjaaDoorK3
import Derived.Test.YtmdjnohdkhepjaaDoorPg0
import Derived.Test.YtmdjnohdkhepjaaDoorP3
import Derived.Test.YtmdjnohdkhepjaaDoorK5
namespace Go.Proofs.YtmdjnohdkhepjaaDoor
set_option linter.unusedSimpArgs false
set_option linter.unusedVariables false
open Go.RowKit
set_option maxRecDepth 100000

end Go.Proofs.YtmdjnohdkhepjaaDoor
