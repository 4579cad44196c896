/- Contracts: a sorted list without doubles. -/
import Derived.Test.YteaabofmnlbmkaaGreatSyC
import Derived.Test.YteaabofmnlbmkaaGreatCRl
set_option linter.all false
namespace Sx
open Go Go.Proofs
set_option maxRecDepth 100000
set_option maxHeartbeats 8000000
set_option linter.unusedSimpArgs false
set_option linter.unusedSectionVars false
variable [Glb]
theorem CompactN_c (S : List (List Int)) (hS : S.length ≤ 100) (he : ∀ x ∈ S, x.length ≤ 1099511627776) (hn : noDup S S.length) : C 89 [.loc 0, .fn (.func 90) [] []] [rowI S] (.loc 0) [rowI S] true := by
  refine mkC false false Tryz.func89 rfl ?_; refine And.intro nofun ?_
  by_cases h2 : S.length < 2
  · refine lm ?_
    refine tY oky ?_; rotate_left; refine doneV.mk [] [0] rfl rfl ?_ ?_ ?_
    repeat' first | exact trivial | exact rfl | exact Iff.rfl | assumption | exact pureI | exact (show _ = _ by omega) | exact (show _ ≤ _ by omega) | exact (show _ < _ by omega) | exact (show ¬ _ by omega) | refine And.intro ?_ ?_
  · refine lm ?_
    refine tN okn ?_; rotate_left; refine loop_up (β := Nat) (fun k => [(5, i64 k), (4, .unk)]) (fun k => []) [] (fun k => 1 ≤ k ∧ k ≤ S.length) (fun k => S.length - k) (1) ?_ ?_ ?_
    · exact ⟨Nat.le_refl _, by omega⟩
    · refine weak.mk [] [0] rfl rfl ?_ ?_
      repeat' first | exact trivial | exact rfl | exact Iff.rfl | assumption | exact pureI | exact (show _ = _ by omega) | exact (show _ ≤ _ by omega) | exact (show _ < _ by omega) | exact (show ¬ _ by omega) | refine And.intro ?_ ?_
    · rintro k ⟨hk0, hk⟩ R hR
      by_cases hkl : k < S.length
      · have e1 := he _ (List.getElem_mem hkl)
        have e2 := he _ (List.getElem_mem (show k - 1 < S.length by omega))
        have hne : ¬ S[k] = S[k - 1] := by
          have := hn k (by omega) hkl
          rwa [getL hkl, getL (by omega)] at this
        refine lm ?_; refine tY oky ?_; refine drawP.mkS (Z (Z ?_)); refine Z ?_
        apply exP.mk
        exact rfl
        apply exP.mk
        exact rfl
        apply exP.mk
        exact rfl
        apply exP.mk
        iterate 2 refine Z ?_
        refine jkm (by omega) ?_
        exact rfl
        apply exP.mk
        refine gm (by omega) ?_
        exact rfl
        apply exP.mk
        exact rfl
        apply exP.mk
        exact rfl
        apply exP.mk
        refine nw (by omega) (by omega) ?_
        exact rfl
        apply exP.mk
        iterate 2 refine Z ?_
        refine jmm (by omega) (by omega) ?_
        exact rfl
        apply exP.mk
        refine gm (by omega) ?_
        exact rfl
        refine callW.mk [] 1 _ _ _ (ranks2_c _ _ (by first | omega | assumption | (simp; omega) | (simp; done) | exact trivial | exact he _ (List.getElem_mem _)) (by first | omega | assumption | (simp; omega) | (simp; done) | exact trivial | exact he _ (List.getElem_mem _))) rfl rfl trivial nofun ?_; refine Z ?_; refine tN okn ?_; refine nw (by omega) (by omega) ?_; rotate_left; refine hR (k + 1) _ _ ?_ ?_; rotate_left; refine weak.mk [] [0] rfl rfl ?_ ?_
        repeat' first | exact trivial | exact rfl | exact Iff.rfl | assumption | exact pureI | exact (show _ = _ by omega) | exact (show _ ≤ _ by omega) | exact (show _ < _ by omega) | exact (show ¬ _ by omega) | refine And.intro ?_ ?_
        rotate_right
        exact ⟨⟨by omega, by omega⟩, by omega⟩
      · refine lm ?_
        refine tN okn ?_; rotate_left; refine doneV.mk [] [0] rfl rfl ?_ ?_ ?_
        repeat' first | exact trivial | exact rfl | exact Iff.rfl | assumption | exact pureI | exact (show _ = _ by omega) | exact (show _ ≤ _ by omega) | exact (show _ < _ by omega) | exact (show ¬ _ by omega) | refine And.intro ?_ ?_
end Sx
