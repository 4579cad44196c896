/- Contracts: steps of dirty lists. -/
import Derived.Test.YtfhklahhkjahiaaGreatDoorMxC
import Derived.Test.YtfhklahhkjahiaaGreatDoorCb
set_option linter.all false
namespace Sx
open Go Go.Proofs
set_option maxRecDepth 100000
set_option maxHeartbeats 4000000
set_option linter.unusedSimpArgs false
set_option linter.unusedSectionVars false
variable [Glb]
end Sx
