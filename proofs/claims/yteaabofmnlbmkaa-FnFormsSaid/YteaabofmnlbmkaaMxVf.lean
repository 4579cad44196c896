/- Plain words: what holds of all crowds. -/
import Derived.Test.YteaabofmnlbmkaaMxVa
import Derived.Test.YteaabofmnlbmkaaMxVc
import Derived.Test.YteaabofmnlbmkaaMxVd
import Derived.Test.YteaabofmnlbmkaaMxVe
import Derived.Test.YteaabofmnlbmkaaMxA
set_option linter.all false
namespace Sx
/-- Periods, axes, views. -/
structure ViewFacts (n : Int) (l : List Int) : Prop where
  per : ∃ s : Nat, perI n l = (s : Int) + 1 ∧ n.toNat % (s + 1) = 0 ∧ ((axL n l).length = 0 ∨ (axL n l).length = n.toNat / (s + 1))
  twice : 1 < l.length → perI n l ≠ n → ∀ v ∈ viewsC n l, (viewsC n l).count v ≠ 1
  rigid : (perI n l = n ∧ axL n l = []) ↔ ((∀ v ∈ viewsC n l, (viewsC n l).count v = 1) ∧ ∀ i, i < l.length → wayL n l i ≠ 0)
end Sx
/- Plain words: ranks and views, gaps that go around. -/
namespace Sx
/-! ranks -/
/-- The greatest of the first k ranks, or 0. -/
def mostK (R : List Int) : Nat → Int
  | 0 => 0
  | k + 1 => max (mostK R k) (R.getD k 0)
end Sx
/- Plain words: the gaps around sum to the size; views and ways. -/
namespace Sx
end Sx
