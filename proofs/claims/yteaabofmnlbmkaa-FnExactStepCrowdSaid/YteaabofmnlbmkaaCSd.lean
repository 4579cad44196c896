/- Contracts: the law of a turn. -/
import Derived.Test.YteaabofmnlbmkaaCSc
import Derived.Test.YteaabofmnlbmkaaCRu
set_option linter.all false
namespace Sx
open Go Go.Proofs
set_option maxRecDepth 100000
set_option maxHeartbeats 8000000
set_option linter.unusedSimpArgs false
set_option linter.unusedSectionVars false
variable [Glb]
noncomputable def scN (n : Int) (l r : List Int) : Int := if crowd n l ∧ isRule r then stN n l r else 0
noncomputable def scL (n : Int) (l r : List Int) : List Int := if crowd n l ∧ isRule r then stL n l r else []
theorem sc_yes {n : Int} {l r : List Int} (h : crowd n l ∧ isRule r) : scN n l r = stN n l r ∧ scL n l r = stL n l r := ⟨if_pos h, if_pos h⟩
theorem sc_no {n : Int} {l r : List Int} (h : ¬ (crowd n l ∧ isRule r)) : scN n l r = 0 ∧ scL n l r = [] := ⟨if_neg h, if_neg h⟩
theorem scL_len (n : Int) (l r : List Int) : (scL n l r).length ≤ l.length := by
  by_cases h : crowd n l ∧ isRule r
  · rw [(sc_yes h).2]; exact stL_len h.1
  · rw [(sc_no h).2]; exact Nat.zero_le _
theorem StepCrowd_c (n : Int) (l r : List Int) (hl : l.length ≤ 1099511627776) (hrl : r.length ≤ 1099511627776) : C 29 [.agg [i64 n, ints l], ints r] [] (.tuple [.agg [i64 (scN n l r), .loc 0], pr (crowd n l ∧ isRule r ∧ stepOk n l r)]) [row (scL n l r)] false := by
  refine mkC false false Try.func29 rfl ?_
  refine And.intro nofun ?_
  by_cases h : crowd n l
  · by_cases hr : isRule r
    · rw [(sc_yes ⟨h, hr⟩).1, (sc_yes ⟨h, hr⟩).2]
      iterate 2 refine Z ?_
      refine callW.mk [] 2 _ _ _ (IsCrowd_c _ _ (by first | omega | assumption | (simp; omega) | (simp; done) | exact trivial)) rfl rfl trivial nofun ?_
      refine tN (by first | omega | assumption | exact fun h => h (by assumption) | exact fun h => h rfl | exact fun h => h Iff.rfl | exact fun h => h ⟨rfl, rfl⟩ | exact fun h => h ⟨rfl, rfl, rfl⟩) ?_
      refine callW.mk [] 2 _ _ _ (IsRobotRule_c _ (by first | omega | assumption | (simp; omega) | (simp; done) | exact trivial)) rfl rfl trivial nofun ?_
      refine tN (by first | omega | assumption | exact fun h => h (by assumption) | exact fun h => h rfl | exact fun h => h Iff.rfl | exact fun h => h ⟨rfl, rfl⟩ | exact fun h => h ⟨rfl, rfl, rfl⟩) ?_
      refine callW.mk [] 2 _ _ _ (step_c _ _ _ (by first | omega | assumption | (simp; omega) | (simp; done) | exact trivial) (by first | omega | assumption | (simp; omega) | (simp; done) | exact trivial)) rfl rfl trivial nofun ?_
      iterate 4 refine Z ?_
      rotate_left
      refine doneV.mk [] [2] rfl rfl ?_ ?_ ?_
      repeat' first | exact trivial | exact rfl | exact Iff.rfl | assumption | exact pureI | exact (show _ = _ by omega) | exact (show _ ≤ _ by omega) | exact (show _ < _ by omega) | exact (show ¬ _ by omega) | refine And.intro ?_ ?_
      exact Iff.intro (fun x => ⟨h, hr, x⟩) (fun x => x.2.2)
    · have hno : ¬ (crowd n l ∧ isRule r) := fun x => hr x.2
      rw [(sc_no hno).1, (sc_no hno).2]
      iterate 2 refine Z ?_
      refine callW.mk [] 2 _ _ _ (IsCrowd_c _ _ (by first | omega | assumption | (simp; omega) | (simp; done) | exact trivial)) rfl rfl trivial nofun ?_
      refine tN (by first | omega | assumption | exact fun h => h (by assumption) | exact fun h => h rfl | exact fun h => h Iff.rfl | exact fun h => h ⟨rfl, rfl⟩ | exact fun h => h ⟨rfl, rfl, rfl⟩) ?_
      refine callW.mk [] 2 _ _ _ (IsRobotRule_c _ (by first | omega | assumption | (simp; omega) | (simp; done) | exact trivial)) rfl rfl trivial nofun ?_
      refine tY (by first | omega | assumption | exact rfl | exact Iff.rfl | exact ⟨rfl, rfl⟩ | exact ⟨rfl, rfl, rfl⟩) ?_
      iterate 5 refine Z ?_
      rotate_left
      refine doneV.mk [1] [2] rfl rfl ?_ ?_ ?_
      repeat' first | exact trivial | exact rfl | exact Iff.rfl | assumption | exact pureI | exact (show _ = _ by omega) | exact (show _ ≤ _ by omega) | exact (show _ < _ by omega) | exact (show ¬ _ by omega) | refine And.intro ?_ ?_
      all_goals exact fun x => hr x.2.1
  · have hno : ¬ (crowd n l ∧ isRule r) := fun x => h x.1
    rw [(sc_no hno).1, (sc_no hno).2]
    iterate 2 refine Z ?_
    refine callW.mk [] 2 _ _ _ (IsCrowd_c _ _ (by first | omega | assumption | (simp; omega) | (simp; done) | exact trivial)) rfl rfl trivial nofun ?_
    refine tY (by first | omega | assumption | exact rfl | exact Iff.rfl | exact ⟨rfl, rfl⟩ | exact ⟨rfl, rfl, rfl⟩) ?_
    iterate 5 refine Z ?_
    rotate_left
    refine doneV.mk [1] [2] rfl rfl ?_ ?_ ?_
    repeat' first | exact trivial | exact rfl | exact Iff.rfl | assumption | exact pureI | exact (show _ = _ by omega) | exact (show _ ≤ _ by omega) | exact (show _ < _ by omega) | exact (show ¬ _ by omega) | refine And.intro ?_ ?_
    all_goals exact fun x => h x.1
theorem sStepCrowd_c (n : Int) (l r : List Int) (hl : l.length ≤ 1099511627776) (hrl : r.length ≤ 1099511627776) : C 27 [.agg [i64 n, ints l], ints r] [] (.tuple [.agg [i64 (scN n l r), .loc 0], pr (crowd n l ∧ isRule r ∧ stepOk n l r)]) [row (scL n l r)] false := by
  refine mkC false false Try.func27 rfl ?_
  refine And.intro nofun ?_
  by_cases h : crowd n l
  · by_cases hr : isRule r
    · rw [(sc_yes ⟨h, hr⟩).1, (sc_yes ⟨h, hr⟩).2]
      iterate 2 refine Z ?_
      refine callW.mk [] 2 _ _ _ (l10Crowd_c _ _ (by first | omega | assumption | (simp; omega) | (simp; done) | exact trivial)) rfl rfl trivial nofun ?_
      refine tN (by first | omega | assumption | exact fun h => h (by assumption) | exact fun h => h rfl | exact fun h => h Iff.rfl | exact fun h => h ⟨rfl, rfl⟩ | exact fun h => h ⟨rfl, rfl, rfl⟩) ?_
      refine callW.mk [] 2 _ _ _ (l10Rule_c _ (by first | omega | assumption | (simp; omega) | (simp; done) | exact trivial)) rfl rfl trivial nofun ?_
      refine tN (by first | omega | assumption | exact fun h => h (by assumption) | exact fun h => h rfl | exact fun h => h Iff.rfl | exact fun h => h ⟨rfl, rfl⟩ | exact fun h => h ⟨rfl, rfl, rfl⟩) ?_
      refine callW.mk [] 2 _ _ _ (l10Step_c _ _ _ (by first | omega | assumption | (simp; omega) | (simp; done) | exact trivial) (by first | omega | assumption | (simp; omega) | (simp; done) | exact trivial)) rfl rfl trivial nofun ?_
      iterate 4 refine Z ?_
      rotate_left
      refine doneV.mk [] [2] rfl rfl ?_ ?_ ?_
      repeat' first | exact trivial | exact rfl | exact Iff.rfl | assumption | exact pureI | exact (show _ = _ by omega) | exact (show _ ≤ _ by omega) | exact (show _ < _ by omega) | exact (show ¬ _ by omega) | refine And.intro ?_ ?_
      exact Iff.intro (fun x => ⟨h, hr, x⟩) (fun x => x.2.2)
    · have hno : ¬ (crowd n l ∧ isRule r) := fun x => hr x.2
      rw [(sc_no hno).1, (sc_no hno).2]
      iterate 2 refine Z ?_
      refine callW.mk [] 2 _ _ _ (l10Crowd_c _ _ (by first | omega | assumption | (simp; omega) | (simp; done) | exact trivial)) rfl rfl trivial nofun ?_
      refine tN (by first | omega | assumption | exact fun h => h (by assumption) | exact fun h => h rfl | exact fun h => h Iff.rfl | exact fun h => h ⟨rfl, rfl⟩ | exact fun h => h ⟨rfl, rfl, rfl⟩) ?_
      refine callW.mk [] 2 _ _ _ (l10Rule_c _ (by first | omega | assumption | (simp; omega) | (simp; done) | exact trivial)) rfl rfl trivial nofun ?_
      refine tY (by first | omega | assumption | exact rfl | exact Iff.rfl | exact ⟨rfl, rfl⟩ | exact ⟨rfl, rfl, rfl⟩) ?_
      iterate 5 refine Z ?_
      rotate_left
      refine doneV.mk [1] [2] rfl rfl ?_ ?_ ?_
      repeat' first | exact trivial | exact rfl | exact Iff.rfl | assumption | exact pureI | exact (show _ = _ by omega) | exact (show _ ≤ _ by omega) | exact (show _ < _ by omega) | exact (show ¬ _ by omega) | refine And.intro ?_ ?_
      all_goals exact fun x => hr x.2.1
  · have hno : ¬ (crowd n l ∧ isRule r) := fun x => h x.1
    rw [(sc_no hno).1, (sc_no hno).2]
    iterate 2 refine Z ?_
    refine callW.mk [] 2 _ _ _ (l10Crowd_c _ _ (by first | omega | assumption | (simp; omega) | (simp; done) | exact trivial)) rfl rfl trivial nofun ?_
    refine tY (by first | omega | assumption | exact rfl | exact Iff.rfl | exact ⟨rfl, rfl⟩ | exact ⟨rfl, rfl, rfl⟩) ?_
    iterate 5 refine Z ?_
    rotate_left
    refine doneV.mk [1] [2] rfl rfl ?_ ?_ ?_
    repeat' first | exact trivial | exact rfl | exact Iff.rfl | assumption | exact pureI | exact (show _ = _ by omega) | exact (show _ ≤ _ by omega) | exact (show _ < _ by omega) | exact (show ¬ _ by omega) | refine And.intro ?_ ?_
    all_goals exact fun x => h x.1
theorem FnExactStepCrowd_c (n : Int) (l r : List Int) (hl : l.length ≤ 9223372036854775807) (hrl : r.length ≤ 9223372036854775807) : C 7 [.agg [i64 n, ints l], ints r] [] .tt [] false := by
  have hs := szCrowd_c n l hl _ rfl
  have hfl := scL_len n l r
  refine mkC false false Try.func7 rfl ?_
  refine And.intro nofun ?_
  by_cases hr : 1048576 < (r.length : Int)
  · refine Z ?_
    refine lm ?_
    refine tY (by first | omega | assumption | exact rfl | exact Iff.rfl | exact ⟨rfl, rfl⟩ | exact ⟨rfl, rfl, rfl⟩) ?_
    rotate_left
    refine doneV.mk [] [] rfl rfl ?_ ?_ ?_
    repeat' first | exact trivial | exact rfl | exact Iff.rfl | assumption | exact pureI | exact (show _ = _ by omega) | exact (show _ ≤ _ by omega) | exact (show _ < _ by omega) | exact (show ¬ _ by omega) | refine And.intro ?_ ?_
  · by_cases h : 1048576 < (l.length : Int)
    · rw [if_pos h] at hs
      refine Z ?_
      refine lm ?_
      refine tN (by first | omega | assumption | exact fun h => h (by assumption) | exact fun h => h rfl | exact fun h => h Iff.rfl | exact fun h => h ⟨rfl, rfl⟩ | exact fun h => h ⟨rfl, rfl, rfl⟩) ?_
      refine callW.mk [] 1 _ _ _ (hs) rfl rfl (by repeat' first | exact trivial | assumption | exact knownSS | exact knownApp knownSS knownNil | refine And.intro ?_ ?_) nofun ?_
      refine tY (by first | omega | assumption | exact rfl | exact Iff.rfl | exact ⟨rfl, rfl⟩ | exact ⟨rfl, rfl, rfl⟩) ?_
      rotate_left
      refine doneV.mk [] [] rfl rfl ?_ ?_ ?_
      repeat' first | exact trivial | exact rfl | exact Iff.rfl | assumption | exact pureI | exact (show _ = _ by omega) | exact (show _ ≤ _ by omega) | exact (show _ < _ by omega) | exact (show ¬ _ by omega) | refine And.intro ?_ ?_
    · rw [if_neg h] at hs
      have h1 : l.length ≤ 1048576 := by omega
      refine Z ?_
      refine lm ?_
      refine tN (by first | omega | assumption | exact fun h => h (by assumption) | exact fun h => h rfl | exact fun h => h Iff.rfl | exact fun h => h ⟨rfl, rfl⟩ | exact fun h => h ⟨rfl, rfl, rfl⟩) ?_
      refine callW.mk [] 1 _ _ _ (hs) rfl rfl (by repeat' first | exact trivial | assumption | exact knownSS | exact knownApp knownSS knownNil | refine And.intro ?_ ?_) nofun ?_
      refine tN (by first | omega | assumption | exact fun h => h (by assumption) | exact fun h => h rfl | exact fun h => h Iff.rfl | exact fun h => h ⟨rfl, rfl⟩ | exact fun h => h ⟨rfl, rfl, rfl⟩) ?_
      refine callW.mk [] 1 _ _ _ (toCrowd_c _ _ (by first | omega | assumption | (simp; omega) | (simp; done) | exact trivial)) rfl rfl trivial nofun ?_
      refine callW.mk [] 2 _ _ _ (toIntS_c _ (by first | omega | assumption | (simp; omega) | (simp; done) | exact trivial)) rfl rfl trivial nofun ?_
      refine callW.mk [] 3 _ _ _ (sStepCrowd_c _ _ _ (by first | omega | assumption | (simp; omega) | (simp; done) | exact trivial) (by first | omega | assumption | (simp; omega) | (simp; done) | exact trivial)) rfl rfl trivial nofun ?_
      iterate 5 refine Z ?_
      refine callW.mk [] 5 _ _ _ (toCrowd_c _ _ (by first | omega | assumption | (simp; omega) | (simp; done) | exact trivial)) rfl rfl trivial nofun ?_
      iterate 5 refine Z ?_
      refine callW.mk [] 7 _ _ _ (toIntS_c _ (by first | omega | assumption | (simp; omega) | (simp; done) | exact trivial)) rfl rfl trivial nofun ?_
      refine callW.mk [] 8 _ _ _ (StepCrowd_c _ _ _ (by first | omega | assumption | (simp; omega) | (simp; done) | exact trivial) (by first | omega | assumption | (simp; omega) | (simp; done) | exact trivial)) rfl rfl trivial nofun ?_
      iterate 5 refine Z ?_
      refine callW.mk [] 10 _ _ _ (eqCrowd_c _ _ _ _ (by first | omega | assumption | (simp; omega) | (simp; done) | exact trivial) (by first | omega | assumption | (simp; omega) | (simp; done) | exact trivial)) rfl rfl trivial nofun ?_
      iterate 2 refine tN (by first | omega | assumption | exact fun h => h (by assumption) | exact fun h => h rfl | exact fun h => h Iff.rfl | exact fun h => h ⟨rfl, rfl⟩ | exact fun h => h ⟨rfl, rfl, rfl⟩) ?_
      refine drawP.mk 5 (Z (Z (Z (Z ?_))))
      apply exP.mk
      exact rfl
      apply exP.mk
      exact rfl
      apply exP.mk
      refine callP.mk _ _ _ (toCrowd_c _ _ (by first | omega | assumption | (simp; omega) | (simp; done) | exact trivial)) trivial nofun trivial ?_
      exact rfl
      apply exP.mk
      refine callP.mk _ _ _ (eqCrowd_c _ _ _ _ (by first | omega | assumption | (simp; omega) | (simp; done) | exact trivial) (by first | omega | assumption | (simp; omega) | (simp; done) | exact trivial)) trivial nofun trivial ?_
      exact rfl
      apply exP.mk
      exact rfl
      refine tN (by first | omega | assumption | exact fun h => h (by assumption) | exact fun h => h rfl | exact fun h => h Iff.rfl | exact fun h => h ⟨rfl, rfl⟩ | exact fun h => h ⟨rfl, rfl, rfl⟩) ?_
      refine callW.mk [] 10 _ _ _ (toIntS_c _ (by first | omega | assumption | (simp; omega) | (simp; done) | exact trivial)) rfl rfl trivial nofun ?_
      refine callW.mk [] 11 _ _ _ (eqIntS_c _ _ (by first | omega | assumption | (simp; omega) | (simp; done) | exact trivial) (by first | omega | assumption | (simp; omega) | (simp; done) | exact trivial)) rfl rfl trivial nofun ?_
      refine tN (by first | omega | assumption | exact fun h => h (by assumption) | exact fun h => h rfl | exact fun h => h Iff.rfl | exact fun h => h ⟨rfl, rfl⟩ | exact fun h => h ⟨rfl, rfl, rfl⟩) ?_
      refine callW.mk [5] 11 _ _ _ (markCrowd_c _ _ (by first | omega | assumption | (simp; omega) | (simp; done) | exact trivial) _ (by first | omega | assumption | (simp; omega) | (simp; done) | exact trivial) (by first | omega | assumption | (simp; omega) | (simp; done) | exact trivial)) rfl rfl trivial nofun ?_
      refine callW.mk [7] 11 _ _ _ (markIntS_c _ (by first | omega | assumption | (simp; omega) | (simp; done) | exact trivial) _ (by first | omega | assumption | (simp; omega) | (simp; done) | exact trivial) (by first | omega | assumption | (simp; omega) | (simp; done) | exact trivial)) rfl rfl trivial nofun ?_
      refine tN (by first | omega | assumption | exact fun h => h (by assumption) | exact fun h => h rfl | exact fun h => h Iff.rfl | exact fun h => h ⟨rfl, rfl⟩ | exact fun h => h ⟨rfl, rfl, rfl⟩) ?_
      refine callW.mk [] 11 _ _ _ (eqCrowd_c _ _ _ _ (by first | omega | assumption | (simp; omega) | (simp; done) | exact trivial) (by first | omega | assumption | (simp; omega) | (simp; done) | exact trivial)) rfl rfl trivial nofun ?_
      iterate 2 refine tN (by first | omega | assumption | exact fun h => h (by assumption) | exact fun h => h rfl | exact fun h => h Iff.rfl | exact fun h => h ⟨rfl, rfl⟩ | exact fun h => h ⟨rfl, rfl, rfl⟩) ?_
      refine callW.mk [8] 11 _ _ _ (markCrowd_c _ _ (by first | omega | assumption | (simp; omega) | (simp; done) | exact trivial) _ (by first | omega | assumption | (simp; omega) | (simp; done) | exact trivial) (by first | omega | assumption | (simp; omega) | (simp; done) | exact trivial)) rfl rfl trivial nofun ?_
      refine callW.mk [] 11 _ _ _ (heldCrowd_c _ _ (by first | omega | assumption | (simp; omega) | (simp; done) | exact trivial) _ (by first | omega | assumption | (simp; omega) | (simp; done) | exact trivial) (by first | omega | assumption | (simp; omega) | (simp; done) | exact trivial)) rfl rfl trivial nofun ?_
      iterate 2 refine tN (by first | omega | assumption | exact fun h => h (by assumption) | exact fun h => h rfl | exact fun h => h Iff.rfl | exact fun h => h ⟨rfl, rfl⟩ | exact fun h => h ⟨rfl, rfl, rfl⟩) ?_
      refine callW.mk [] 11 _ _ _ (toCrowd_c _ _ (by first | omega | assumption | (simp; omega) | (simp; done) | exact trivial)) rfl rfl trivial nofun ?_
      refine callW.mk [] 12 _ _ _ (toIntS_c _ (by first | omega | assumption | (simp; omega) | (simp; done) | exact trivial)) rfl rfl trivial nofun ?_
      refine callW.mk [] 13 _ _ _ (StepCrowd_c _ _ _ (by first | omega | assumption | (simp; omega) | (simp; done) | exact trivial) (by first | omega | assumption | (simp; omega) | (simp; done) | exact trivial)) rfl rfl trivial nofun ?_
      iterate 5 refine Z ?_
      refine callW.mk [] 15 _ _ _ (eqCrowd_c _ _ _ _ (by first | omega | assumption | (simp; omega) | (simp; done) | exact trivial) (by first | omega | assumption | (simp; omega) | (simp; done) | exact trivial)) rfl rfl trivial nofun ?_
      iterate 2 refine tN (by first | omega | assumption | exact fun h => h (by assumption) | exact fun h => h rfl | exact fun h => h Iff.rfl | exact fun h => h ⟨rfl, rfl⟩ | exact fun h => h ⟨rfl, rfl, rfl⟩) ?_
      refine callW.mk [] 15 _ _ _ (heldCrowd_c _ _ (by first | omega | assumption | (simp; omega) | (simp; done) | exact trivial) _ (by first | omega | assumption | (simp; omega) | (simp; done) | exact trivial) (by first | omega | assumption | (simp; omega) | (simp; done) | exact trivial)) rfl rfl trivial nofun ?_
      iterate 2 refine tN (by first | omega | assumption | exact fun h => h (by assumption) | exact fun h => h rfl | exact fun h => h Iff.rfl | exact fun h => h ⟨rfl, rfl⟩ | exact fun h => h ⟨rfl, rfl, rfl⟩) ?_
      rotate_left
      all_goals exact dv0 rfl trivial
end Sx
