/- Plain words: crowds of 12 places with none at 0, one by one. -/
import Derived.Test.YteaabofmnlbmkaaGreatMxVa
set_option linter.all false
namespace Sx
set_option maxRecDepth 100000
theorem fact12p : ((allC 12 9 4).all fun l => (fun l : List Int => (fun l : List Int => l.isEmpty || factV 12 l) (((12 - 1 - 10 : Nat) : Int) :: l)) (((12 - 1 - 9 : Nat) : Int) :: l)) = true := by decide +kernel
theorem fact12q : ((allC 12 9 5).all fun l => (fun l : List Int => l.isEmpty || factV 12 l) (((12 - 1 - 10 : Nat) : Int) :: l)) = true := by decide +kernel
theorem fact12c : ((allC 12 10 5).all fun l => (fun l : List Int => l.isEmpty || factV 12 l) (((12 - 1 - 10 : Nat) : Int) :: l)) = true := allC_all fact12q fact12p
theorem fact12r : ((allC 12 9 5).all fun l => (fun l : List Int => l.isEmpty || factV 12 l) (((12 - 1 - 9 : Nat) : Int) :: l)) = true := by decide +kernel
theorem fact12s : ((allC 12 9 6).all fun l : List Int => l.isEmpty || factV 12 l) = true := by decide +kernel
theorem fact12d : ((allC 12 10 6).all fun l : List Int => l.isEmpty || factV 12 l) = true := allC_all fact12s fact12r
theorem fact12b : ((allC 12 11 6).all fun l : List Int => l.isEmpty || factV 12 l) = true := allC_all fact12d fact12c
end Sx
