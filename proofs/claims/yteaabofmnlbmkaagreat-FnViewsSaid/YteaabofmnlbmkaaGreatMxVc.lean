/- Plain words: crowds of 11 places, one by one. -/
import Derived.Test.YteaabofmnlbmkaaGreatMxVa
set_option linter.all false
namespace Sx
set_option maxRecDepth 100000
theorem fact11a : ((allC 11 10 5).all fun l => (fun l : List Int => l.isEmpty || factV 11 l) (((11 - 1 - 10 : Nat) : Int) :: l)) = true := by decide +kernel
theorem fact11b : ((allC 11 10 6).all fun l : List Int => l.isEmpty || factV 11 l) = true := by decide +kernel
theorem fact11 : factAll 11 = true := allC_all fact11b fact11a
end Sx
