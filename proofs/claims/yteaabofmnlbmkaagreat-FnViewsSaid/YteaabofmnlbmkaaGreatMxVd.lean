/- Plain words: crowds of 12 places with one at 0, one by one. -/
import Derived.Test.YteaabofmnlbmkaaGreatMxVa
set_option linter.all false
namespace Sx
set_option maxRecDepth 100000
theorem fact12x : ((allC 12 10 4).all fun l => (fun l : List Int => (fun l : List Int => l.isEmpty || factV 12 l) (((12 - 1 - 11 : Nat) : Int) :: l)) (((12 - 1 - 10 : Nat) : Int) :: l)) = true := by decide +kernel
theorem fact12y : ((allC 12 9 4).all fun l => (fun l : List Int => (fun l : List Int => l.isEmpty || factV 12 l) (((12 - 1 - 11 : Nat) : Int) :: l)) (((12 - 1 - 9 : Nat) : Int) :: l)) = true := by decide +kernel
theorem fact12z : ((allC 12 9 5).all fun l : List Int => (fun l : List Int => l.isEmpty || factV 12 l) (((12 - 1 - 11 : Nat) : Int) :: l)) = true := by decide +kernel
theorem fact12a : ((allC 12 11 5).all fun l => (fun l : List Int => l.isEmpty || factV 12 l) (((12 - 1 - 11 : Nat) : Int) :: l)) = true := allC_all (allC_all fact12z fact12y) fact12x
end Sx
