/- Plain words: crowds of up to 9 places, one by one. -/
import Derived.Test.YteaabofmnlbmkaaGreatMxA
set_option linter.all false
namespace Sx
set_option maxRecDepth 100000
theorem allC_all {n u m : Nat} {P : List Int → Bool} (h1 : (allC n u (m + 1)).all P = true) (h2 : ((allC n u m).all fun l => P (((n - 1 - u : Nat) : Int) :: l)) = true) : (allC n (u + 1) (m + 1)).all P = true := by
  show (allC n u (m + 1) ++ (allC n u m).map fun l => ((n - 1 - u : Nat) : Int) :: l).all P = true
  rw [List.all_append, h1, Bool.true_and, List.all_map]
  exact h2
theorem fact3 : factAll 3 = true := by decide +kernel
theorem fact4 : factAll 4 = true := by decide +kernel
theorem fact5 : factAll 5 = true := by decide +kernel
theorem fact6 : factAll 6 = true := by decide +kernel
theorem fact7 : factAll 7 = true := by decide +kernel
theorem fact8 : factAll 8 = true := by decide +kernel
theorem fact9 : factAll 9 = true := by decide +kernel
end Sx
/- Plain words: crowds of 10 places, one by one. -/
namespace Sx
set_option maxRecDepth 100000
theorem fact10 : factAll 10 = true := by decide +kernel
end Sx
