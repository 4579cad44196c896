/- Contracts: the law of the first form. -/
import Derived.Test.YteaabofmnlbmkaaSyC
import Derived.Test.YteaabofmnlbmkaaCRc
import Derived.Test.YteaabofmnlbmkaaCRd
import Derived.Test.YteaabofmnlbmkaaCRu
set_option linter.all false
namespace Sx
open Go Go.Proofs
set_option maxRecDepth 100000
set_option maxHeartbeats 8000000
set_option linter.unusedSimpArgs false
set_option linter.unusedSectionVars false
variable [Glb]
noncomputable def ffR (n : Int) (l : List Int) : List Int := if crowd n l then formR n l else []
noncomputable def ffN (n : Int) (l : List Int) : Int := if crowd n l then n else 0
theorem ff_yes {n : Int} {l : List Int} (h : crowd n l) : ffR n l = formR n l ∧ ffN n l = n := ⟨if_pos h, if_pos h⟩
theorem ff_no {n : Int} {l : List Int} (h : ¬ crowd n l) : ffR n l = [] ∧ ffN n l = 0 := ⟨if_neg h, if_neg h⟩
theorem FirstForm_c (n : Int) (l : List Int) (hl : l.length ≤ 1099511627776) : C 14 [.agg [i64 n, ints l]] [] (.tuple [.agg [i64 (ffN n l), .loc 0], pr (crowd n l)]) [row (ffR n l)] false := by
  refine mkC false false Try.func14 rfl ?_; refine And.intro nofun ?_
  by_cases h : crowd n l
  · rw [(ff_yes h).1, (ff_yes h).2]
    iterate 2 refine Z ?_
    refine callW.mk [] 2 _ _ _ (IsCrowd_c _ _ oka) rfl rfl trivial nofun ?_; refine tN okn ?_; refine callW.mk [] 2 _ _ _ (form_c _ _ oka) rfl rfl trivial nofun ?_; iterate 4 refine Z ?_
    rotate_left; refine doneV.mk [] [2] rfl rfl ?_ ?_ ?_
    repeat' first | exact trivial | exact rfl | exact Iff.rfl | assumption | exact pureI | exact (show _ = _ by omega) | exact (show _ ≤ _ by omega) | exact (show _ < _ by omega) | exact (show ¬ _ by omega) | refine And.intro ?_ ?_
    all_goals exact h
  · rw [(ff_no h).1, (ff_no h).2]
    iterate 2 refine Z ?_
    refine callW.mk [] 2 _ _ _ (IsCrowd_c _ _ oka) rfl rfl trivial nofun ?_; refine tY oky ?_; iterate 5 refine Z ?_
    rotate_left; refine doneV.mk [1] [2] rfl rfl ?_ ?_ ?_
    repeat' first | exact trivial | exact rfl | exact Iff.rfl | assumption | exact pureI | exact (show _ = _ by omega) | exact (show _ ≤ _ by omega) | exact (show _ < _ by omega) | exact (show ¬ _ by omega) | refine And.intro ?_ ?_
    all_goals exact h
theorem sFirstForm_c (n : Int) (l : List Int) (hl : l.length ≤ 1099511627776) : C 12 [.agg [i64 n, ints l]] [] (.tuple [.agg [i64 (ffN n l), .loc 0], pr (crowd n l)]) [row (ffR n l)] false := by
  refine mkC false false Try.func12 rfl ?_; refine And.intro nofun ?_
  by_cases h : crowd n l
  · rw [(ff_yes h).1, (ff_yes h).2]
    iterate 2 refine Z ?_
    refine callW.mk [] 2 _ _ _ (l10Crowd_c _ _ oka) rfl rfl trivial nofun ?_; refine tN okn ?_; refine callW.mk [] 2 _ _ _ (l10Form_c _ _ oka) rfl rfl trivial nofun ?_; iterate 4 refine Z ?_
    rotate_left; refine doneV.mk [] [2] rfl rfl ?_ ?_ ?_
    repeat' first | exact trivial | exact rfl | exact Iff.rfl | assumption | exact pureI | exact (show _ = _ by omega) | exact (show _ ≤ _ by omega) | exact (show _ < _ by omega) | exact (show ¬ _ by omega) | refine And.intro ?_ ?_
    all_goals exact h
  · rw [(ff_no h).1, (ff_no h).2]
    iterate 2 refine Z ?_
    refine callW.mk [] 2 _ _ _ (l10Crowd_c _ _ oka) rfl rfl trivial nofun ?_; refine tY oky ?_; iterate 5 refine Z ?_
    rotate_left; refine doneV.mk [1] [2] rfl rfl ?_ ?_ ?_
    repeat' first | exact trivial | exact rfl | exact Iff.rfl | assumption | exact pureI | exact (show _ = _ by omega) | exact (show _ ≤ _ by omega) | exact (show _ < _ by omega) | exact (show ¬ _ by omega) | refine And.intro ?_ ?_
    all_goals exact h
end Sx
