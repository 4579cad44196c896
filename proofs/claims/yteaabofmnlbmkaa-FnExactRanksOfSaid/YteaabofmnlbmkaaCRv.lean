/- Contracts: the law of ranks. -/
import Derived.Test.YteaabofmnlbmkaaCRp
import Derived.Test.YteaabofmnlbmkaaCRs
import Derived.Test.YteaabofmnlbmkaaCRu
set_option linter.all false
namespace Sx
open Go Go.Proofs
set_option maxRecDepth 100000
set_option maxHeartbeats 8000000
set_option linter.unusedSimpArgs false
set_option linter.unusedSectionVars false
variable [Glb]
noncomputable def rkR (n : Int) (l : List Int) : List Int := if crowd n l then ranksL n l else []
theorem rk_yes {n : Int} {l : List Int} (h : crowd n l) : rkR n l = ranksL n l := if_pos h
theorem rk_no {n : Int} {l : List Int} (h : ¬ crowd n l) : rkR n l = [] := if_neg h
theorem rkR_len (n : Int) (l : List Int) : (rkR n l).length ≤ l.length := by
  by_cases h : crowd n l
  · rw [rk_yes h, ranksL_len]; exact Nat.le_refl _
  · rw [rk_no h]; exact Nat.zero_le _
theorem RanksOf_c (n : Int) (l : List Int) (hl : l.length ≤ 1099511627776) : C 19 [.agg [i64 n, ints l]] [] (.tuple [.loc 0, pr (crowd n l)]) [row (rkR n l)] false := by
  refine mkC false false Try.func19 rfl ?_
  refine And.intro nofun ?_
  by_cases h : crowd n l
  · rw [rk_yes h]
    refine Z ?_
    refine callW.mk [] 1 _ _ _ (IsCrowd_c _ _ (by first | omega | assumption | (simp; omega) | (simp; done) | exact trivial)) rfl rfl trivial nofun ?_
    refine tN (by first | omega | assumption | exact fun h => h (by assumption) | exact fun h => h rfl | exact fun h => h Iff.rfl | exact fun h => h ⟨rfl, rfl⟩ | exact fun h => h ⟨rfl, rfl, rfl⟩) ?_
    refine callW.mk [] 1 _ _ _ (ranks_c _ _ (by first | omega | assumption | (simp; omega) | (simp; done) | exact trivial)) rfl rfl trivial nofun ?_
    rotate_left
    refine doneV.mk [] [1] rfl rfl ?_ ?_ ?_
    repeat' first | exact trivial | exact rfl | exact Iff.rfl | assumption | exact pureI | exact (show _ = _ by omega) | exact (show _ ≤ _ by omega) | exact (show _ < _ by omega) | exact (show ¬ _ by omega) | refine And.intro ?_ ?_
    all_goals exact h
  · rw [rk_no h]
    refine Z ?_
    refine callW.mk [] 1 _ _ _ (IsCrowd_c _ _ (by first | omega | assumption | (simp; omega) | (simp; done) | exact trivial)) rfl rfl trivial nofun ?_
    refine tY (by first | omega | assumption | exact rfl | exact Iff.rfl | exact ⟨rfl, rfl⟩ | exact ⟨rfl, rfl, rfl⟩) ?_
    rotate_left
    refine doneV.mk [1] [1] rfl rfl ?_ ?_ ?_
    repeat' first | exact trivial | exact rfl | exact Iff.rfl | assumption | exact pureI | exact (show _ = _ by omega) | exact (show _ ≤ _ by omega) | exact (show _ < _ by omega) | exact (show ¬ _ by omega) | refine And.intro ?_ ?_
    all_goals exact h
theorem sRanksOf_c (n : Int) (l : List Int) (hl : l.length ≤ 1099511627776) : C 18 [.agg [i64 n, ints l]] [] (.tuple [.loc 0, pr (crowd n l)]) [row (rkR n l)] false := by
  refine mkC false false Try.func18 rfl ?_
  refine And.intro nofun ?_
  by_cases h : crowd n l
  · rw [rk_yes h]
    refine Z ?_
    refine callW.mk [] 1 _ _ _ (l10Crowd_c _ _ (by first | omega | assumption | (simp; omega) | (simp; done) | exact trivial)) rfl rfl trivial nofun ?_
    refine tN (by first | omega | assumption | exact fun h => h (by assumption) | exact fun h => h rfl | exact fun h => h Iff.rfl | exact fun h => h ⟨rfl, rfl⟩ | exact fun h => h ⟨rfl, rfl, rfl⟩) ?_
    refine callW.mk [] 1 _ _ _ (l10Ranks_c _ _ (by first | omega | assumption | (simp; omega) | (simp; done) | exact trivial)) rfl rfl trivial nofun ?_
    rotate_left
    refine doneV.mk [] [1] rfl rfl ?_ ?_ ?_
    repeat' first | exact trivial | exact rfl | exact Iff.rfl | assumption | exact pureI | exact (show _ = _ by omega) | exact (show _ ≤ _ by omega) | exact (show _ < _ by omega) | exact (show ¬ _ by omega) | refine And.intro ?_ ?_
    all_goals exact h
  · rw [rk_no h]
    refine Z ?_
    refine callW.mk [] 1 _ _ _ (l10Crowd_c _ _ (by first | omega | assumption | (simp; omega) | (simp; done) | exact trivial)) rfl rfl trivial nofun ?_
    refine tY (by first | omega | assumption | exact rfl | exact Iff.rfl | exact ⟨rfl, rfl⟩ | exact ⟨rfl, rfl, rfl⟩) ?_
    iterate 2 refine Z ?_
    rotate_left
    refine doneV.mk [1] [1] rfl rfl ?_ ?_ ?_
    repeat' first | exact trivial | exact rfl | exact Iff.rfl | assumption | exact pureI | exact (show _ = _ by omega) | exact (show _ ≤ _ by omega) | exact (show _ < _ by omega) | exact (show ¬ _ by omega) | refine And.intro ?_ ?_
    all_goals exact h
theorem FnExactRanksOf_c (n : Int) (l : List Int) (hl : l.length ≤ 9223372036854775807) : C 4 [.agg [i64 n, ints l]] [] .tt [] false := by
  have hs := szCrowd_c n l hl _ rfl
  have hfl := rkR_len n l
  refine mkC false false Try.func4 rfl ?_
  refine And.intro nofun ?_
  by_cases h : 1048576 < (l.length : Int)
  · rw [if_pos h] at hs
    refine Z ?_
    refine callW.mk [] 1 _ _ _ (hs) rfl rfl (by repeat' first | exact trivial | assumption | exact knownSS | exact knownApp knownSS knownNil | refine And.intro ?_ ?_) nofun ?_
    refine tY (by first | omega | assumption | exact rfl | exact Iff.rfl | exact ⟨rfl, rfl⟩ | exact ⟨rfl, rfl, rfl⟩) ?_
    rotate_left
    refine doneV.mk [] [] rfl rfl ?_ ?_ ?_
    repeat' first | exact trivial | exact rfl | exact Iff.rfl | assumption | exact pureI | exact (show _ = _ by omega) | exact (show _ ≤ _ by omega) | exact (show _ < _ by omega) | exact (show ¬ _ by omega) | refine And.intro ?_ ?_
  · rw [if_neg h] at hs
    have h1 : l.length ≤ 1048576 := by omega
    refine Z ?_
    refine callW.mk [] 1 _ _ _ (hs) rfl rfl (by repeat' first | exact trivial | assumption | exact knownSS | exact knownApp knownSS knownNil | refine And.intro ?_ ?_) nofun ?_
    refine tN (by first | omega | assumption | exact fun h => h (by assumption) | exact fun h => h rfl | exact fun h => h Iff.rfl | exact fun h => h ⟨rfl, rfl⟩ | exact fun h => h ⟨rfl, rfl, rfl⟩) ?_
    refine callW.mk [] 1 _ _ _ (toCrowd_c _ _ (by first | omega | assumption | (simp; omega) | (simp; done) | exact trivial)) rfl rfl trivial nofun ?_
    refine callW.mk [] 2 _ _ _ (sRanksOf_c _ _ (by first | omega | assumption | (simp; omega) | (simp; done) | exact trivial)) rfl rfl trivial nofun ?_
    refine callW.mk [] 3 _ _ _ (toCrowd_c _ _ (by first | omega | assumption | (simp; omega) | (simp; done) | exact trivial)) rfl rfl trivial nofun ?_
    iterate 5 refine Z ?_
    refine callW.mk [] 5 _ _ _ (RanksOf_c _ _ (by first | omega | assumption | (simp; omega) | (simp; done) | exact trivial)) rfl rfl trivial nofun ?_
    refine callW.mk [] 6 _ _ _ (eqIntS_c _ _ (by first | omega | assumption | (simp; omega) | (simp; done) | exact trivial) (by first | omega | assumption | (simp; omega) | (simp; done) | exact trivial)) rfl rfl trivial nofun ?_
    iterate 2 refine tN (by first | omega | assumption | exact fun h => h (by assumption) | exact fun h => h rfl | exact fun h => h Iff.rfl | exact fun h => h ⟨rfl, rfl⟩ | exact fun h => h ⟨rfl, rfl, rfl⟩) ?_
    refine drawP.mk 5 (Z (Z (Z (Z ?_))))
    apply exP.mk
    exact rfl
    apply exP.mk
    exact rfl
    apply exP.mk
    refine callP.mk _ _ _ (toCrowd_c _ _ (by first | omega | assumption | (simp; omega) | (simp; done) | exact trivial)) trivial nofun trivial ?_
    exact rfl
    apply exP.mk
    refine callP.mk _ _ _ (eqCrowd_c _ _ _ _ (by first | omega | assumption | (simp; omega) | (simp; done) | exact trivial) (by first | omega | assumption | (simp; omega) | (simp; done) | exact trivial)) trivial nofun trivial ?_
    exact rfl
    apply exP.mk
    exact rfl
    refine tN (by first | omega | assumption | exact fun h => h (by assumption) | exact fun h => h rfl | exact fun h => h Iff.rfl | exact fun h => h ⟨rfl, rfl⟩ | exact fun h => h ⟨rfl, rfl, rfl⟩) ?_
    refine callW.mk [3] 6 _ _ _ (markCrowd_c _ _ (by first | omega | assumption | (simp; omega) | (simp; done) | exact trivial) _ (by first | omega | assumption | (simp; omega) | (simp; done) | exact trivial) (by first | omega | assumption | (simp; omega) | (simp; done) | exact trivial)) rfl rfl trivial nofun ?_
    refine tN (by first | omega | assumption | exact fun h => h (by assumption) | exact fun h => h rfl | exact fun h => h Iff.rfl | exact fun h => h ⟨rfl, rfl⟩ | exact fun h => h ⟨rfl, rfl, rfl⟩) ?_
    refine callW.mk [] 6 _ _ _ (eqIntS_c _ _ (by first | omega | assumption | (simp; omega) | (simp; done) | exact trivial) (by first | omega | assumption | (simp; omega) | (simp; done) | exact trivial)) rfl rfl trivial nofun ?_
    iterate 2 refine tN (by first | omega | assumption | exact fun h => h (by assumption) | exact fun h => h rfl | exact fun h => h Iff.rfl | exact fun h => h ⟨rfl, rfl⟩ | exact fun h => h ⟨rfl, rfl, rfl⟩) ?_
    refine callW.mk [5] 6 _ _ _ (markIntS_c _ (by first | omega | assumption | (simp; omega) | (simp; done) | exact trivial) _ (by first | omega | assumption | (simp; omega) | (simp; done) | exact trivial) (by first | omega | assumption | (simp; omega) | (simp; done) | exact trivial)) rfl rfl trivial nofun ?_
    refine callW.mk [] 6 _ _ _ (heldIntS_c _ (by first | omega | assumption | (simp; omega) | (simp; done) | exact trivial) _ (by first | omega | assumption | (simp; omega) | (simp; done) | exact trivial) (by first | omega | assumption | (simp; omega) | (simp; done) | exact trivial)) rfl rfl trivial nofun ?_
    iterate 2 refine tN (by first | omega | assumption | exact fun h => h (by assumption) | exact fun h => h rfl | exact fun h => h Iff.rfl | exact fun h => h ⟨rfl, rfl⟩ | exact fun h => h ⟨rfl, rfl, rfl⟩) ?_
    refine callW.mk [] 6 _ _ _ (toCrowd_c _ _ (by first | omega | assumption | (simp; omega) | (simp; done) | exact trivial)) rfl rfl trivial nofun ?_
    refine callW.mk [] 7 _ _ _ (RanksOf_c _ _ (by first | omega | assumption | (simp; omega) | (simp; done) | exact trivial)) rfl rfl trivial nofun ?_
    refine callW.mk [] 8 _ _ _ (eqIntS_c _ _ (by first | omega | assumption | (simp; omega) | (simp; done) | exact trivial) (by first | omega | assumption | (simp; omega) | (simp; done) | exact trivial)) rfl rfl trivial nofun ?_
    iterate 2 refine tN (by first | omega | assumption | exact fun h => h (by assumption) | exact fun h => h rfl | exact fun h => h Iff.rfl | exact fun h => h ⟨rfl, rfl⟩ | exact fun h => h ⟨rfl, rfl, rfl⟩) ?_
    refine callW.mk [] 8 _ _ _ (heldIntS_c _ (by first | omega | assumption | (simp; omega) | (simp; done) | exact trivial) _ (by first | omega | assumption | (simp; omega) | (simp; done) | exact trivial) (by first | omega | assumption | (simp; omega) | (simp; done) | exact trivial)) rfl rfl trivial nofun ?_
    iterate 2 refine tN (by first | omega | assumption | exact fun h => h (by assumption) | exact fun h => h rfl | exact fun h => h Iff.rfl | exact fun h => h ⟨rfl, rfl⟩ | exact fun h => h ⟨rfl, rfl, rfl⟩) ?_
    rotate_left
    all_goals exact dv0 rfl trivial
end Sx
