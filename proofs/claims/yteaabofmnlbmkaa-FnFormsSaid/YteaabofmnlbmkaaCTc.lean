/- Contracts: what crowds become, of the same form. -/
import Derived.Test.YteaabofmnlbmkaaSyC
import Derived.Test.YteaabofmnlbmkaaCTb
import Derived.Test.YteaabofmnlbmkaaCRc
import Derived.Test.YteaabofmnlbmkaaCRd
import Derived.Test.YteaabofmnlbmkaaCSf
set_option linter.all false
namespace Sx
open Go Go.Proofs
set_option maxRecDepth 100000
set_option maxHeartbeats 8000000
set_option linter.unusedSimpArgs false
set_option linter.unusedSectionVars false
variable [Glb]
theorem AreSameForm_c (n m : Int) (a b : List Int) (hla : a.length ≤ 1099511627776) (hlb : b.length ≤ 1099511627776) : C 36 [.agg [i64 n, ints a], .agg [i64 m, ints b]] [] (.tuple [pr ((crowd n a ∧ crowd m b) ∧ n = m ∧ formR n a = formR m b), pr (crowd n a ∧ crowd m b)]) [] false := by
  refine mkC false false Try.func36 rfl ?_; refine And.intro nofun ?_
  by_cases ha : crowd n a
  · by_cases hb : crowd m b
    · have h1 := (formK_crowd ha n.toNat).2
      have h2 := (formK_crowd hb m.toNat).2
      have h3 : (formR n a).length = a.length := h1
      have h4 : (formR m b).length = b.length := h2
      iterate 2 refine Z ?_
      refine callW.mk [] 2 _ _ _ (IsCrowd_c _ _ oka) rfl rfl trivial nofun ?_; refine tN okn ?_; refine callW.mk [] 2 _ _ _ (IsCrowd_c _ _ oka) rfl rfl trivial nofun ?_; refine tN okn ?_; refine drawP.mk 7 (Z (Z (Z (Z ?_))))
      apply exP.mk
      exact rfl
      apply exP.mk
      refine callP.mk _ _ _ (form_c _ _ oka) trivial nofun trivial ?_
      exact rfl
      apply exP.mk
      exact rfl
      apply exP.mk
      refine callP.mk _ _ _ (form_c _ _ oka) trivial nofun trivial ?_
      exact rfl
      apply exP.mk
      refine callP.mk _ _ _ (same_c _ _ _ _ oka oka) trivial nofun trivial ?_
      exact rfl
      apply exP.mk
      exact rfl
      apply exP.mk
      exact rfl
      rotate_left; refine doneV.mk [] [] rfl rfl ?_ ?_ ?_
      repeat' first | exact trivial | exact rfl | exact Iff.rfl | assumption | exact pureI | exact (show _ = _ by omega) | exact (show _ ≤ _ by omega) | exact (show _ < _ by omega) | exact (show ¬ _ by omega) | refine And.intro ?_ ?_
      all_goals first | exact Iff.intro (fun x => ⟨⟨ha, hb⟩, x⟩) (fun x => x.2) | exact ⟨ha, hb⟩
    · iterate 2 refine Z ?_
      refine callW.mk [] 2 _ _ _ (IsCrowd_c _ _ oka) rfl rfl trivial nofun ?_; refine tN okn ?_; refine callW.mk [] 2 _ _ _ (IsCrowd_c _ _ oka) rfl rfl trivial nofun ?_; refine tY oky ?_; rotate_left; refine doneV.mk [] [] rfl rfl ?_ ?_ ?_
      repeat' first | exact trivial | exact rfl | exact Iff.rfl | assumption | exact pureI | exact (show _ = _ by omega) | exact (show _ ≤ _ by omega) | exact (show _ < _ by omega) | exact (show ¬ _ by omega) | refine And.intro ?_ ?_
      all_goals (first | exact fun x => hb x.2 | exact fun x => hb x.1.2)
  · iterate 2 refine Z ?_
    refine callW.mk [] 2 _ _ _ (IsCrowd_c _ _ oka) rfl rfl trivial nofun ?_; refine tY oky ?_; rotate_left; refine doneV.mk [] [] rfl rfl ?_ ?_ ?_
    repeat' first | exact trivial | exact rfl | exact Iff.rfl | assumption | exact pureI | exact (show _ = _ by omega) | exact (show _ ≤ _ by omega) | exact (show _ < _ by omega) | exact (show ¬ _ by omega) | refine And.intro ?_ ?_
    all_goals (first | exact fun x => ha x.1 | exact fun x => ha x.1.1)
theorem sAreSameForm_c (n m : Int) (a b : List Int) (hla : a.length ≤ 1099511627776) (hlb : b.length ≤ 1099511627776) : C 37 [.agg [i64 n, ints a], .agg [i64 m, ints b]] [] (.tuple [pr ((crowd n a ∧ crowd m b) ∧ n = m ∧ formR n a = formR m b), pr (crowd n a ∧ crowd m b)]) [] false := by
  refine mkC false false Try.func37 rfl ?_; refine And.intro nofun ?_
  by_cases ha : crowd n a
  · by_cases hb : crowd m b
    · have h3 : (formR n a).length = a.length := (formK_crowd ha n.toNat).2
      have h4 : (formR m b).length = b.length := (formK_crowd hb m.toNat).2
      by_cases hnm : n = m
      · iterate 2 refine Z ?_
        refine callW.mk [] 2 _ _ _ (l10Crowd_c _ _ oka) rfl rfl trivial nofun ?_; refine tN okn ?_; refine callW.mk [] 2 _ _ _ (l10Crowd_c _ _ oka) rfl rfl trivial nofun ?_; refine tN okn ?_; refine drawP.mk 16 (Z (Z (Z (Z ?_))))
        apply exP.mk
        refine Z ?_
        exact rfl
        apply exP.mk
        exact rfl
        apply exP.mk
        refine Z ?_
        exact rfl
        apply exP.mk
        exact rfl
        apply exP.mk
        exact rfl
        apply exP.mk
        exact rfl
        refine tY oky ?_
        apply exP.mk
        exact rfl
        apply exP.mk
        refine callP.mk _ _ _ (l10Form_c _ _ oka) trivial nofun trivial ?_
        exact rfl
        apply exP.mk
        exact rfl
        apply exP.mk
        exact rfl
        apply exP.mk
        refine callP.mk _ _ _ (l10Form_c _ _ oka) trivial nofun trivial ?_
        exact rfl
        apply exP.mk
        exact rfl
        apply exP.mk
        refine callP.mk _ _ _ (l1Same_c _ _ oka oka) trivial nofun trivial ?_
        exact rfl
        apply exP.mk
        exact rfl
        apply exP.mk
        exact rfl
        rotate_left; refine doneV.mk [] [] rfl rfl ?_ ?_ ?_
        repeat' first | exact trivial | exact rfl | exact Iff.rfl | assumption | exact pureI | exact (show _ = _ by omega) | exact (show _ ≤ _ by omega) | exact (show _ < _ by omega) | exact (show ¬ _ by omega) | refine And.intro ?_ ?_
        all_goals first | exact Iff.intro (fun x => ⟨⟨ha, hb⟩, hnm, x⟩) (fun x => x.2.2) | exact ⟨ha, hb⟩
      · iterate 2 refine Z ?_
        refine callW.mk [] 2 _ _ _ (l10Crowd_c _ _ oka) rfl rfl trivial nofun ?_; refine tN okn ?_; refine callW.mk [] 2 _ _ _ (l10Crowd_c _ _ oka) rfl rfl trivial nofun ?_; refine tN okn ?_; refine drawP.mk 16 (Z (Z (Z (Z ?_))))
        apply exP.mk
        refine Z ?_
        exact rfl
        apply exP.mk
        exact rfl
        apply exP.mk
        refine Z ?_
        exact rfl
        apply exP.mk
        exact rfl
        apply exP.mk
        exact rfl
        apply exP.mk
        exact rfl
        refine tN okn ?_
        apply exP.mk
        exact rfl
        apply exP.mk
        exact rfl
        rotate_left; refine doneV.mk [] [] rfl rfl ?_ ?_ ?_
        repeat' first | exact trivial | exact rfl | exact Iff.rfl | assumption | exact pureI | exact (show _ = _ by omega) | exact (show _ ≤ _ by omega) | exact (show _ < _ by omega) | exact (show ¬ _ by omega) | refine And.intro ?_ ?_
        all_goals first | exact fun x => hnm x.2.1 | exact ⟨ha, hb⟩
    · iterate 2 refine Z ?_
      refine callW.mk [] 2 _ _ _ (l10Crowd_c _ _ oka) rfl rfl trivial nofun ?_; refine tN okn ?_; refine callW.mk [] 2 _ _ _ (l10Crowd_c _ _ oka) rfl rfl trivial nofun ?_; refine tY oky ?_; rotate_left; refine doneV.mk [] [] rfl rfl ?_ ?_ ?_
      repeat' first | exact trivial | exact rfl | exact Iff.rfl | assumption | exact pureI | exact (show _ = _ by omega) | exact (show _ ≤ _ by omega) | exact (show _ < _ by omega) | exact (show ¬ _ by omega) | refine And.intro ?_ ?_
      all_goals (first | exact fun x => hb x.2 | exact fun x => hb x.1.2)
  · iterate 2 refine Z ?_
    refine callW.mk [] 2 _ _ _ (l10Crowd_c _ _ oka) rfl rfl trivial nofun ?_; refine tY oky ?_; rotate_left; refine doneV.mk [] [] rfl rfl ?_ ?_ ?_
    repeat' first | exact trivial | exact rfl | exact Iff.rfl | assumption | exact pureI | exact (show _ = _ by omega) | exact (show _ ≤ _ by omega) | exact (show _ < _ by omega) | exact (show ¬ _ by omega) | refine And.intro ?_ ?_
    all_goals (first | exact fun x => ha x.1 | exact fun x => ha x.1.1)
end Sx
