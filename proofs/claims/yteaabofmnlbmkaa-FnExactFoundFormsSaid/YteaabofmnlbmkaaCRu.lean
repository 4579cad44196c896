/- Contracts: what the laws do with crowds. -/
import Derived.Test.YteaabofmnlbmkaaCRb
set_option linter.all false
namespace Sx
open Go Go.Proofs
set_option maxRecDepth 100000
set_option maxHeartbeats 8000000
set_option linter.unusedSimpArgs false
set_option linter.unusedSectionVars false
variable [Glb]
theorem szIntSX_c (l : List Int) (hl : l.length ≤ 9223372036854775807) (m : Int) (hm : m = 1048576) : C 50 [ints l, i64 m] [] (i64 (if 1048576 < (l.length : Int) then -1 else 1048576 - l.length)) [] false := by
  subst hm
  refine mkC false false Try.func50 rfl ?_
  refine And.intro nofun ?_
  by_cases h : 1048576 < (l.length : Int)
  · rw [if_pos h]
    refine lm ?_
    refine nw (by omega) (by omega) ?_
    refine tY (by first | omega | assumption | exact rfl | exact Iff.rfl | exact ⟨rfl, rfl⟩ | exact ⟨rfl, rfl, rfl⟩) ?_
    rotate_left
    refine doneV.mk [] [] rfl rfl ?_ ?_ ?_
    repeat' first | exact trivial | exact rfl | exact Iff.rfl | assumption | exact pureI | exact (show _ = _ by omega) | exact (show _ ≤ _ by omega) | exact (show _ < _ by omega) | exact (show ¬ _ by omega) | refine And.intro ?_ ?_
  · rw [if_neg h]
    refine lm ?_
    refine nw (by omega) (by omega) ?_
    refine tN (by first | omega | assumption | exact fun h => h (by assumption) | exact fun h => h rfl | exact fun h => h Iff.rfl | exact fun h => h ⟨rfl, rfl⟩ | exact fun h => h ⟨rfl, rfl, rfl⟩) ?_
    rotate_left
    refine doneV.mk [] [] rfl rfl ?_ ?_ ?_
    repeat' first | exact trivial | exact rfl | exact Iff.rfl | assumption | exact pureI | exact (show _ = _ by omega) | exact (show _ ≤ _ by omega) | exact (show _ < _ by omega) | exact (show ¬ _ by omega) | refine And.intro ?_ ?_
theorem szCrowd_c (n : Int) (l : List Int) (hl : l.length ≤ 9223372036854775807) (m : Int) (hm : m = 1048576) : C 11 [.agg [i64 n, ints l], i64 m] [] (i64 (if 1048576 < (l.length : Int) then -1 else 1048576 - l.length)) [] false := by
  subst hm
  have hz := szIntSX_c l hl _ rfl
  refine mkC false false Try.func11 rfl ?_
  refine And.intro nofun ?_
  by_cases h : 1048576 < (l.length : Int)
  · rw [if_pos h] at hz ⊢
    iterate 2 refine Z ?_
    refine callW.mk [] 1 _ _ _ (hz) rfl rfl (by repeat' first | exact trivial | assumption | exact knownSS | exact knownApp knownSS knownNil | refine And.intro ?_ ?_) nofun ?_
    refine tY (by first | omega | assumption | exact rfl | exact Iff.rfl | exact ⟨rfl, rfl⟩ | exact ⟨rfl, rfl, rfl⟩) ?_
    rotate_left
    refine doneV.mk [] [] rfl rfl ?_ ?_ ?_
    repeat' first | exact trivial | exact rfl | exact Iff.rfl | assumption | exact pureI | exact (show _ = _ by omega) | exact (show _ ≤ _ by omega) | exact (show _ < _ by omega) | exact (show ¬ _ by omega) | refine And.intro ?_ ?_
  · rw [if_neg h] at hz ⊢
    iterate 2 refine Z ?_
    refine callW.mk [] 1 _ _ _ (hz) rfl rfl (by repeat' first | exact trivial | assumption | exact knownSS | exact knownApp knownSS knownNil | refine And.intro ?_ ?_) nofun ?_
    refine tN (by first | omega | assumption | exact fun h => h (by assumption) | exact fun h => h rfl | exact fun h => h Iff.rfl | exact fun h => h ⟨rfl, rfl⟩ | exact fun h => h ⟨rfl, rfl, rfl⟩) ?_
    rotate_left
    refine doneV.mk [] [] rfl rfl ?_ ?_ ?_
    repeat' first | exact trivial | exact rfl | exact Iff.rfl | assumption | exact pureI | exact (show _ = _ by omega) | exact (show _ ≤ _ by omega) | exact (show _ < _ by omega) | exact (show ¬ _ by omega) | refine And.intro ?_ ?_
theorem toCrowd_c (n : Int) (l : List Int) (hl : l.length ≤ 1099511627776) : C 13 [.agg [i64 n, ints l]] [] (.agg [i64 n, .loc 0]) [row l] false := by
  refine mkC false false Try.func13 rfl ?_
  refine And.intro nofun ?_
  iterate 10 refine Z ?_
  refine callW.mk [] 3 _ _ _ (toIntS_c _ (by first | omega | assumption | (simp; omega) | (simp; done) | exact trivial)) rfl rfl trivial nofun ?_
  iterate 9 refine Z ?_
  rotate_left
  refine doneV.mk [] [3] rfl rfl ?_ ?_ ?_
  repeat' first | exact trivial | exact rfl | exact Iff.rfl | assumption | exact pureI | exact (show _ = _ by omega) | exact (show _ ≤ _ by omega) | exact (show _ < _ by omega) | exact (show ¬ _ by omega) | refine And.intro ?_ ?_
theorem eqCrowd_c (n m : Int) (a b : List Int) (ha : a.length ≤ 1099511627776) (hb : b.length ≤ 1099511627776) : C 15 [.agg [i64 n, ints a], .agg [i64 m, ints b]] [] (pr (n = m ∧ a = b)) [] false := by
  refine mkC false false Try.func15 rfl ?_
  refine And.intro nofun ?_
  by_cases h : n = m
  · by_cases h2 : a = b
    · iterate 4 refine Z ?_
      refine tN (by first | omega | assumption | exact fun h => h (by assumption) | exact fun h => h rfl | exact fun h => h Iff.rfl | exact fun h => h ⟨rfl, rfl⟩ | exact fun h => h ⟨rfl, rfl, rfl⟩) ?_
      iterate 2 refine Z ?_
      refine callW.mk [] 2 _ _ _ (eqIntS_c _ _ (by first | omega | assumption | (simp; omega) | (simp; done) | exact trivial) (by first | omega | assumption | (simp; omega) | (simp; done) | exact trivial)) rfl rfl trivial nofun ?_
      refine tN (by first | omega | assumption | exact fun h => h (by assumption) | exact fun h => h rfl | exact fun h => h Iff.rfl | exact fun h => h ⟨rfl, rfl⟩ | exact fun h => h ⟨rfl, rfl, rfl⟩) ?_
      rotate_left
      refine doneV.mk [] [] rfl rfl ?_ ?_ ?_
      repeat' first | exact trivial | exact rfl | exact Iff.rfl | assumption | exact pureI | exact (show _ = _ by omega) | exact (show _ ≤ _ by omega) | exact (show _ < _ by omega) | exact (show ¬ _ by omega) | refine And.intro ?_ ?_
      all_goals exact ⟨h, h2⟩
    · iterate 4 refine Z ?_
      refine tN (by first | omega | assumption | exact fun h => h (by assumption) | exact fun h => h rfl | exact fun h => h Iff.rfl | exact fun h => h ⟨rfl, rfl⟩ | exact fun h => h ⟨rfl, rfl, rfl⟩) ?_
      iterate 2 refine Z ?_
      refine callW.mk [] 2 _ _ _ (eqIntS_c _ _ (by first | omega | assumption | (simp; omega) | (simp; done) | exact trivial) (by first | omega | assumption | (simp; omega) | (simp; done) | exact trivial)) rfl rfl trivial nofun ?_
      refine tY (by first | omega | assumption | exact rfl | exact Iff.rfl | exact ⟨rfl, rfl⟩ | exact ⟨rfl, rfl, rfl⟩) ?_
      rotate_left
      refine doneV.mk [] [] rfl rfl ?_ ?_ ?_
      repeat' first | exact trivial | exact rfl | exact Iff.rfl | assumption | exact pureI | exact (show _ = _ by omega) | exact (show _ ≤ _ by omega) | exact (show _ < _ by omega) | exact (show ¬ _ by omega) | refine And.intro ?_ ?_
      all_goals exact fun x => h2 x.2
  · iterate 4 refine Z ?_
    refine tY (by first | omega | assumption | exact rfl | exact Iff.rfl | exact ⟨rfl, rfl⟩ | exact ⟨rfl, rfl, rfl⟩) ?_
    rotate_left
    refine doneV.mk [] [] rfl rfl ?_ ?_ ?_
    repeat' first | exact trivial | exact rfl | exact Iff.rfl | assumption | exact pureI | exact (show _ = _ by omega) | exact (show _ ≤ _ by omega) | exact (show _ < _ by omega) | exact (show ¬ _ by omega) | refine And.intro ?_ ?_
    all_goals exact fun x => h x.1
theorem markCrowd_c (n : Int) (l : List Int) (hl : l.length ≤ 1048576) (k : Int) (h0 : 0 ≤ k) (hk : k ≤ 4611686018427387904) : C 16 [.agg [i64 n, .loc 0], i64 k] [row l] (i64 (k + l.length)) [row (marks k l.length)] false := by
  refine mkC false false Try.func16 rfl ?_
  refine And.intro nofun ?_
  iterate 2 refine Z ?_
  refine callW.mk [0] 2 _ _ _ (markIntS_c _ (by first | omega | assumption | (simp; omega) | (simp; done) | exact trivial) _ (by first | omega | assumption | (simp; omega) | (simp; done) | exact trivial) (by first | omega | assumption | (simp; omega) | (simp; done) | exact trivial)) rfl rfl trivial nofun ?_
  rotate_left
  refine doneV.mk [] [0] rfl rfl ?_ ?_ ?_
  repeat' first | exact trivial | exact rfl | exact Iff.rfl | assumption | exact pureI | exact (show _ = _ by omega) | exact (show _ ≤ _ by omega) | exact (show _ < _ by omega) | exact (show ¬ _ by omega) | refine And.intro ?_ ?_
theorem heldCrowd_c (n : Int) (m : Nat) (hl : m ≤ 1048576) (k : Int) (h0 : 0 ≤ k) (hk : k ≤ 4611686018427387904) : C 17 [.agg [i64 n, ints (marks k m)], i64 k] [] (i64 (k + m)) [] false := by
  refine mkC false false Try.func17 rfl ?_
  refine And.intro nofun ?_
  iterate 2 refine Z ?_
  refine callW.mk [] 1 _ _ _ (heldIntS_c _ (by first | omega | assumption | (simp; omega) | (simp; done) | exact trivial) _ (by first | omega | assumption | (simp; omega) | (simp; done) | exact trivial) (by first | omega | assumption | (simp; omega) | (simp; done) | exact trivial)) rfl rfl trivial nofun ?_
  refine tN (by first | omega | assumption | exact fun h => h (by assumption) | exact fun h => h rfl | exact fun h => h Iff.rfl | exact fun h => h ⟨rfl, rfl⟩ | exact fun h => h ⟨rfl, rfl, rfl⟩) ?_
  rotate_left
  refine doneV.mk [] [] rfl rfl ?_ ?_ ?_
  repeat' first | exact trivial | exact rfl | exact Iff.rfl | assumption | exact pureI | exact (show _ = _ by omega) | exact (show _ ≤ _ by omega) | exact (show _ < _ by omega) | exact (show ¬ _ by omega) | refine And.intro ?_ ?_
end Sx
