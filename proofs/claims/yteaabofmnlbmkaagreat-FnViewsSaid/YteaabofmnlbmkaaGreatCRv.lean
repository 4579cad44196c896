/- Contracts: the law of ranks. -/
import Derived.Test.YteaabofmnlbmkaaGreatSyC
import Derived.Test.YteaabofmnlbmkaaGreatCRp
import Derived.Test.YteaabofmnlbmkaaGreatCRs
import Derived.Test.YteaabofmnlbmkaaGreatCRu
set_option linter.all false
namespace Sx
open Go Go.Proofs
set_option maxRecDepth 100000
set_option maxHeartbeats 8000000
set_option linter.unusedSimpArgs false
set_option linter.unusedSectionVars false
variable [Glb]
noncomputable def rkR (n : Int) (l : List Int) : List Int := if crowd n l then ranksL n l else []
theorem rk_yes {n : Int} {l : List Int} (h : crowd n l) : rkR n l = ranksL n l := if_pos h
theorem rk_no {n : Int} {l : List Int} (h : ¬ crowd n l) : rkR n l = [] := if_neg h
theorem RanksOf_c (n : Int) (l : List Int) (hl : l.length ≤ 1099511627776) : C 7 [.agg [i64 n, ints l]] [] (.tuple [.loc 0, pr (crowd n l)]) [row (rkR n l)] false := by
  refine mkC false false Tryz.func7 rfl ?_; refine And.intro nofun ?_
  by_cases h : crowd n l
  · rw [rk_yes h]
    refine Z ?_; refine callW.mk [] 1 _ _ _ (IsCrowd_c _ _ oka) rfl rfl trivial nofun ?_; refine tN okn ?_; refine callW.mk [] 1 _ _ _ (ranks_c _ _ oka) rfl rfl trivial nofun ?_; rotate_left; refine doneV.mk [] [1] rfl rfl ?_ ?_ ?_
    repeat' first | exact trivial | exact rfl | exact Iff.rfl | assumption | exact pureI | exact (show _ = _ by omega) | exact (show _ ≤ _ by omega) | exact (show _ < _ by omega) | exact (show ¬ _ by omega) | refine And.intro ?_ ?_
    all_goals exact h
  · rw [rk_no h]
    refine Z ?_; refine callW.mk [] 1 _ _ _ (IsCrowd_c _ _ oka) rfl rfl trivial nofun ?_; refine tY oky ?_; rotate_left; refine doneV.mk [1] [1] rfl rfl ?_ ?_ ?_
    repeat' first | exact trivial | exact rfl | exact Iff.rfl | assumption | exact pureI | exact (show _ = _ by omega) | exact (show _ ≤ _ by omega) | exact (show _ < _ by omega) | exact (show ¬ _ by omega) | refine And.intro ?_ ?_
    all_goals exact h
theorem sRanksOf_c (n : Int) (l : List Int) (hl : l.length ≤ 1099511627776) : C 8 [.agg [i64 n, ints l]] [] (.tuple [.loc 0, pr (crowd n l)]) [row (rkR n l)] false := by
  refine mkC false false Tryz.func8 rfl ?_; refine And.intro nofun ?_
  by_cases h : crowd n l
  · rw [rk_yes h]
    refine Z ?_; refine callW.mk [] 1 _ _ _ (l10Crowd_c _ _ oka) rfl rfl trivial nofun ?_; refine tN okn ?_; refine callW.mk [] 1 _ _ _ (l10Ranks_c _ _ oka) rfl rfl trivial nofun ?_; rotate_left; refine doneV.mk [] [1] rfl rfl ?_ ?_ ?_
    repeat' first | exact trivial | exact rfl | exact Iff.rfl | assumption | exact pureI | exact (show _ = _ by omega) | exact (show _ ≤ _ by omega) | exact (show _ < _ by omega) | exact (show ¬ _ by omega) | refine And.intro ?_ ?_
    all_goals exact h
  · rw [rk_no h]
    refine Z ?_; refine callW.mk [] 1 _ _ _ (l10Crowd_c _ _ oka) rfl rfl trivial nofun ?_; refine tY oky ?_; iterate 2 refine Z ?_
    rotate_left; refine doneV.mk [1] [1] rfl rfl ?_ ?_ ?_
    repeat' first | exact trivial | exact rfl | exact Iff.rfl | assumption | exact pureI | exact (show _ = _ by omega) | exact (show _ ≤ _ by omega) | exact (show _ < _ by omega) | exact (show ¬ _ by omega) | refine And.intro ?_ ?_
    all_goals exact h
end Sx
