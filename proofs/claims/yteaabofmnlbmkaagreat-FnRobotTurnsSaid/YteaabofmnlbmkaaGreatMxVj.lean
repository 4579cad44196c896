/- Plain words: turned and mirrored crowds of 12 places with one at 0. -/
import Derived.Test.YteaabofmnlbmkaaGreatMxRh
set_option linter.all false
namespace Sx
set_option maxRecDepth 100000
theorem turn12x : ((allC 12 10 4).all fun l => (fun l : List Int => (fun l : List Int => factT 12 l) (((12 - 1 - 11 : Nat) : Int) :: l)) (((12 - 1 - 10 : Nat) : Int) :: l)) = true := by decide +kernel
theorem turn12y : ((allC 12 9 4).all fun l => (fun l : List Int => (fun l : List Int => factT 12 l) (((12 - 1 - 11 : Nat) : Int) :: l)) (((12 - 1 - 9 : Nat) : Int) :: l)) = true := by decide +kernel
theorem turn12z : ((allC 12 9 5).all fun l : List Int => (fun l : List Int => factT 12 l) (((12 - 1 - 11 : Nat) : Int) :: l)) = true := by decide +kernel
theorem turn12a : ((allC 12 11 5).all fun l => (fun l : List Int => factT 12 l) (((12 - 1 - 11 : Nat) : Int) :: l)) = true := allC_all (allC_all turn12z turn12y) turn12x
end Sx
/- Plain words: turned and mirrored crowds of 12 places with none at 0. -/
namespace Sx
set_option maxRecDepth 100000
theorem turn12p : ((allC 12 9 4).all fun l => (fun l : List Int => (fun l : List Int => factT 12 l) (((12 - 1 - 10 : Nat) : Int) :: l)) (((12 - 1 - 9 : Nat) : Int) :: l)) = true := by decide +kernel
theorem turn12q : ((allC 12 9 5).all fun l => (fun l : List Int => factT 12 l) (((12 - 1 - 10 : Nat) : Int) :: l)) = true := by decide +kernel
theorem turn12c : ((allC 12 10 5).all fun l => (fun l : List Int => factT 12 l) (((12 - 1 - 10 : Nat) : Int) :: l)) = true := allC_all turn12q turn12p
theorem turn12r : ((allC 12 9 5).all fun l => (fun l : List Int => factT 12 l) (((12 - 1 - 9 : Nat) : Int) :: l)) = true := by decide +kernel
theorem turn12s : ((allC 12 9 6).all fun l : List Int => factT 12 l) = true := by decide +kernel
theorem turn12d : ((allC 12 10 6).all fun l : List Int => factT 12 l) = true := allC_all turn12s turn12r
theorem turn12b : ((allC 12 11 6).all fun l : List Int => factT 12 l) = true := allC_all turn12d turn12c
end Sx
