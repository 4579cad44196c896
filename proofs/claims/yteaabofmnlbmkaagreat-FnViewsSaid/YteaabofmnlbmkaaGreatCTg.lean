/- Contracts: axes, told with validity, of the reference. -/
import Derived.Test.YteaabofmnlbmkaaGreatSyC
import Derived.Test.YteaabofmnlbmkaaGreatCTd
set_option linter.all false
namespace Sx
open Go Go.Proofs
set_option maxRecDepth 100000
set_option maxHeartbeats 8000000
set_option linter.unusedSimpArgs false
set_option linter.unusedSectionVars false
variable [Glb]
theorem sAxesOf_c (n : Int) (l : List Int) (hl : l.length ≤ 1099511627776) : C 14 [.agg [i64 n, ints l]] [] (.tuple [.loc 0, pr (crowd n l)]) [row (aoR n l)] false := by
  refine mkC false false Tryz.func14 rfl ?_; refine And.intro nofun ?_
  by_cases h : crowd n l
  · rw [ao_yes h]
    refine Z ?_; refine callW.mk [] 1 _ _ _ (l10Crowd_c _ _ oka) rfl rfl trivial nofun ?_; refine tN okn ?_; refine callW.mk [] 1 _ _ _ (l10Axes_c _ _ oka) rfl rfl trivial nofun ?_; rotate_left; refine doneV.mk [] [1] rfl rfl ?_ ?_ ?_
    repeat' first | exact trivial | exact rfl | exact Iff.rfl | assumption | exact pureI | exact (show _ = _ by omega) | exact (show _ ≤ _ by omega) | exact (show _ < _ by omega) | exact (show ¬ _ by omega) | refine And.intro ?_ ?_
    all_goals exact h
  · rw [ao_no h]
    refine Z ?_; refine callW.mk [] 1 _ _ _ (l10Crowd_c _ _ oka) rfl rfl trivial nofun ?_; refine tY oky ?_; iterate 2 refine Z ?_
    rotate_left; refine doneV.mk [1] [1] rfl rfl ?_ ?_ ?_
    repeat' first | exact trivial | exact rfl | exact Iff.rfl | assumption | exact pureI | exact (show _ = _ by omega) | exact (show _ ≤ _ by omega) | exact (show _ < _ by omega) | exact (show ¬ _ by omega) | refine And.intro ?_ ?_
    all_goals exact h
theorem aoR_12 (n : Int) (l : List Int) : (aoR n l).length ≤ 12 := by
  by_cases h : crowd n l
  · rw [ao_yes h]
    have := axL_le n l
    have := h.1.1
    omega
  · rw [ao_no h]; exact Nat.zero_le _
end Sx
