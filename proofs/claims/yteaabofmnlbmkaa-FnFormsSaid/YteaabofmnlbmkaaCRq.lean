/- Contracts: a list of lists collected from its values. -/
import Derived.Test.YteaabofmnlbmkaaSxC
import Derived.Test.YteaabofmnlbmkaaCRl
import Derived.RangeFuncBox
import Derived.RangeFuncFrom
import Derived.RangeFuncLeaves
import Derived.OwnWalkIn
import Derived.TacticsInMore
import Derived.LoopNIn
import Derived.LoopIn
import Derived.WalkKit
import Derived.Maps.AppendAt
import Derived.Shelf.Abstract
set_option linter.all false
namespace Sx
open Go Go.Proofs Go.RowKit Go.Shelf
attribute [local go_sem] Oper.semAt_some
/-- What a slice value is. -/
abbrev Hd := Option Addr × Nat × Nat
abbrev enS (x : Hd) : Value := .slice x.1 x.2.1 x.2.2
/-- What has come when k rounds are over. -/
def uptoV (f : Nat → Hd) (k : Nat) : List Hd := (List.range k).map f
variable [Glb]
end Sx
