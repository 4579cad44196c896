/- Plain words: turned and mirrored crowds of 11 places. -/
import Derived.Test.YteaabofmnlbmkaaGreatMxRh
set_option linter.all false
namespace Sx
set_option maxRecDepth 100000
theorem turn11a : ((allC 11 10 5).all fun l => (fun l : List Int => factT 11 l) (((11 - 1 - 10 : Nat) : Int) :: l)) = true := by decide +kernel
theorem turn11b : ((allC 11 10 6).all fun l : List Int => factT 11 l) = true := by decide +kernel
theorem turn11 : turnAll 11 = true := allC_all turn11b turn11a
end Sx
