/- Contracts: the law of a turn. -/
import Derived.Test.YteaabofmnlbmkaaGreatSyC
import Derived.Test.YteaabofmnlbmkaaGreatCSc
import Derived.Test.YteaabofmnlbmkaaGreatCRu
set_option linter.all false
namespace Sx
open Go Go.Proofs
set_option maxRecDepth 100000
set_option maxHeartbeats 8000000
set_option linter.unusedSimpArgs false
set_option linter.unusedSectionVars false
variable [Glb]
noncomputable def scN (n : Int) (l r : List Int) : Int := if crowd n l ∧ isRule r then stN n l r else 0
noncomputable def scL (n : Int) (l r : List Int) : List Int := if crowd n l ∧ isRule r then stL n l r else []
theorem sc_yes {n : Int} {l r : List Int} (h : crowd n l ∧ isRule r) : scN n l r = stN n l r ∧ scL n l r = stL n l r := ⟨if_pos h, if_pos h⟩
theorem sc_no {n : Int} {l r : List Int} (h : ¬ (crowd n l ∧ isRule r)) : scN n l r = 0 ∧ scL n l r = [] := ⟨if_neg h, if_neg h⟩
theorem StepCrowd_c (n : Int) (l r : List Int) (hl : l.length ≤ 1099511627776) (hrl : r.length ≤ 1099511627776) : C 29 [.agg [i64 n, ints l], ints r] [] (.tuple [.agg [i64 (scN n l r), .loc 0], pr (crowd n l ∧ isRule r ∧ stepOk n l r)]) [row (scL n l r)] false := by
  refine mkC false false Tryz.func29 rfl ?_; refine And.intro nofun ?_
  by_cases h : crowd n l
  · by_cases hr : isRule r
    · rw [(sc_yes ⟨h, hr⟩).1, (sc_yes ⟨h, hr⟩).2]
      iterate 2 refine Z ?_
      refine callW.mk [] 2 _ _ _ (IsCrowd_c _ _ oka) rfl rfl trivial nofun ?_; refine tN okn ?_; refine callW.mk [] 2 _ _ _ (IsRobotRule_c _ oka) rfl rfl trivial nofun ?_; refine tN okn ?_; refine callW.mk [] 2 _ _ _ (step_c _ _ _ oka oka) rfl rfl trivial nofun ?_; iterate 4 refine Z ?_
      rotate_left; refine doneV.mk [] [2] rfl rfl ?_ ?_ ?_
      repeat' first | exact trivial | exact rfl | exact Iff.rfl | assumption | exact pureI | exact (show _ = _ by omega) | exact (show _ ≤ _ by omega) | exact (show _ < _ by omega) | exact (show ¬ _ by omega) | refine And.intro ?_ ?_
      exact Iff.intro (fun x => ⟨h, hr, x⟩) (fun x => x.2.2)
    · have hno : ¬ (crowd n l ∧ isRule r) := fun x => hr x.2
      rw [(sc_no hno).1, (sc_no hno).2]
      iterate 2 refine Z ?_
      refine callW.mk [] 2 _ _ _ (IsCrowd_c _ _ oka) rfl rfl trivial nofun ?_; refine tN okn ?_; refine callW.mk [] 2 _ _ _ (IsRobotRule_c _ oka) rfl rfl trivial nofun ?_; refine tY oky ?_; iterate 5 refine Z ?_
      rotate_left; refine doneV.mk [1] [2] rfl rfl ?_ ?_ ?_
      repeat' first | exact trivial | exact rfl | exact Iff.rfl | assumption | exact pureI | exact (show _ = _ by omega) | exact (show _ ≤ _ by omega) | exact (show _ < _ by omega) | exact (show ¬ _ by omega) | refine And.intro ?_ ?_
      all_goals exact fun x => hr x.2.1
  · have hno : ¬ (crowd n l ∧ isRule r) := fun x => h x.1
    rw [(sc_no hno).1, (sc_no hno).2]
    iterate 2 refine Z ?_
    refine callW.mk [] 2 _ _ _ (IsCrowd_c _ _ oka) rfl rfl trivial nofun ?_; refine tY oky ?_; iterate 5 refine Z ?_
    rotate_left; refine doneV.mk [1] [2] rfl rfl ?_ ?_ ?_
    repeat' first | exact trivial | exact rfl | exact Iff.rfl | assumption | exact pureI | exact (show _ = _ by omega) | exact (show _ ≤ _ by omega) | exact (show _ < _ by omega) | exact (show ¬ _ by omega) | refine And.intro ?_ ?_
    all_goals exact fun x => h x.1
theorem sStepCrowd_c (n : Int) (l r : List Int) (hl : l.length ≤ 1099511627776) (hrl : r.length ≤ 1099511627776) : C 30 [.agg [i64 n, ints l], ints r] [] (.tuple [.agg [i64 (scN n l r), .loc 0], pr (crowd n l ∧ isRule r ∧ stepOk n l r)]) [row (scL n l r)] false := by
  refine mkC false false Tryz.func30 rfl ?_; refine And.intro nofun ?_
  by_cases h : crowd n l
  · by_cases hr : isRule r
    · rw [(sc_yes ⟨h, hr⟩).1, (sc_yes ⟨h, hr⟩).2]
      iterate 2 refine Z ?_
      refine callW.mk [] 2 _ _ _ (l10Crowd_c _ _ oka) rfl rfl trivial nofun ?_; refine tN okn ?_; refine callW.mk [] 2 _ _ _ (l10Rule_c _ oka) rfl rfl trivial nofun ?_; refine tN okn ?_; refine callW.mk [] 2 _ _ _ (l10Step_c _ _ _ oka oka) rfl rfl trivial nofun ?_; iterate 4 refine Z ?_
      rotate_left; refine doneV.mk [] [2] rfl rfl ?_ ?_ ?_
      repeat' first | exact trivial | exact rfl | exact Iff.rfl | assumption | exact pureI | exact (show _ = _ by omega) | exact (show _ ≤ _ by omega) | exact (show _ < _ by omega) | exact (show ¬ _ by omega) | refine And.intro ?_ ?_
      exact Iff.intro (fun x => ⟨h, hr, x⟩) (fun x => x.2.2)
    · have hno : ¬ (crowd n l ∧ isRule r) := fun x => hr x.2
      rw [(sc_no hno).1, (sc_no hno).2]
      iterate 2 refine Z ?_
      refine callW.mk [] 2 _ _ _ (l10Crowd_c _ _ oka) rfl rfl trivial nofun ?_; refine tN okn ?_; refine callW.mk [] 2 _ _ _ (l10Rule_c _ oka) rfl rfl trivial nofun ?_; refine tY oky ?_; iterate 5 refine Z ?_
      rotate_left; refine doneV.mk [1] [2] rfl rfl ?_ ?_ ?_
      repeat' first | exact trivial | exact rfl | exact Iff.rfl | assumption | exact pureI | exact (show _ = _ by omega) | exact (show _ ≤ _ by omega) | exact (show _ < _ by omega) | exact (show ¬ _ by omega) | refine And.intro ?_ ?_
      all_goals exact fun x => hr x.2.1
  · have hno : ¬ (crowd n l ∧ isRule r) := fun x => h x.1
    rw [(sc_no hno).1, (sc_no hno).2]
    iterate 2 refine Z ?_
    refine callW.mk [] 2 _ _ _ (l10Crowd_c _ _ oka) rfl rfl trivial nofun ?_; refine tY oky ?_; iterate 5 refine Z ?_
    rotate_left; refine doneV.mk [1] [2] rfl rfl ?_ ?_ ?_
    repeat' first | exact trivial | exact rfl | exact Iff.rfl | assumption | exact pureI | exact (show _ = _ by omega) | exact (show _ ≤ _ by omega) | exact (show _ < _ by omega) | exact (show ¬ _ by omega) | refine And.intro ?_ ?_
    all_goals exact fun x => h x.1
end Sx
