/- Contracts: the law of the forms that are found. -/
import Derived.Test.YteaabofmnlbmkaaSyC
import Derived.Test.YteaabofmnlbmkaaCSc
import Derived.Test.YteaabofmnlbmkaaCRc
import Derived.Test.YteaabofmnlbmkaaCRd
import Derived.Test.YteaabofmnlbmkaaCRu
import Derived.Test.YteaabofmnlbmkaaMxA
set_option linter.all false
namespace Sx
open Go Go.Proofs
set_option maxRecDepth 100000
set_option maxHeartbeats 8000000
set_option linter.unusedSimpArgs false
set_option linter.unusedSectionVars false
variable [Glb]
theorem same_c (n m : Int) (a b : List Int) (ha : a.length ≤ 1099511627776) (hb : b.length ≤ 1099511627776) : C 73 [.agg [i64 n, ints a], .agg [i64 m, ints b]] [] (pr (n = m ∧ a = b)) [] false := by
  refine mkC false false Try.func73 rfl ?_; refine And.intro nofun ?_
  by_cases h : n = m
  · iterate 4 refine Z ?_
    refine tY oky ?_; iterate 2 refine Z ?_
    refine callW.mk [] 2 _ _ _ (Equal_c _ _ oka oka) rfl rfl trivial nofun ?_; rotate_left; refine doneV.mk [] [] rfl rfl ?_ ?_ ?_
    repeat' first | exact trivial | exact rfl | exact Iff.rfl | assumption | exact pureI | exact (show _ = _ by omega) | exact (show _ ≤ _ by omega) | exact (show _ < _ by omega) | exact (show ¬ _ by omega) | refine And.intro ?_ ?_
    all_goals exact Iff.intro (fun x => ⟨h, x⟩) (fun x => x.2)
  · iterate 4 refine Z ?_
    refine tN okn ?_; rotate_left; refine doneV.mk [] [] rfl rfl ?_ ?_ ?_
    repeat' first | exact trivial | exact rfl | exact Iff.rfl | assumption | exact pureI | exact (show _ = _ by omega) | exact (show _ ≤ _ by omega) | exact (show _ < _ by omega) | exact (show ¬ _ by omega) | refine And.intro ?_ ?_
    all_goals exact fun x => h x.1
end Sx
