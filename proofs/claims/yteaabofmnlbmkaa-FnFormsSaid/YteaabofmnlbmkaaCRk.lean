/- Contracts: lists of lists that are sorted by a function. -/
import Derived.Test.YteaabofmnlbmkaaCRj
import Derived.Test.YteaabofmnlbmkaaMxA
set_option linter.all false
namespace Sx
open Go Go.Proofs
set_option maxRecDepth 100000
set_option maxHeartbeats 8000000
set_option linter.unusedSimpArgs false
set_option linter.unusedSectionVars false
variable [Glb]
abbrev rowI (L : List (List Int)) : Ent := .row .plain 1 (L.map ints)
end Sx
