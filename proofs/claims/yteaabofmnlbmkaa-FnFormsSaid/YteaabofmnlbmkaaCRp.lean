/- Contracts: ranks, of the reference. -/
import Derived.Test.YteaabofmnlbmkaaCRo
import Derived.Test.YteaabofmnlbmkaaMxA
set_option linter.all false
namespace Sx
open Go Go.Proofs
set_option maxRecDepth 100000
set_option maxHeartbeats 16000000
set_option linter.unusedSimpArgs false
set_option linter.unusedSectionVars false
variable [Glb]
end Sx
