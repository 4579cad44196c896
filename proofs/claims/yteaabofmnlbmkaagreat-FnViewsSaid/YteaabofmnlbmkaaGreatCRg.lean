/- Contracts: gaps and views of robots. -/
import Derived.Test.YteaabofmnlbmkaaGreatSyC
import Derived.Test.YteaabofmnlbmkaaGreatCRb
import Derived.Test.YteaabofmnlbmkaaGreatMxA
set_option linter.all false
namespace Sx
open Go Go.Proofs
set_option maxRecDepth 100000
set_option maxHeartbeats 8000000
set_option linter.unusedSimpArgs false
set_option linter.unusedSectionVars false
variable [Glb]
theorem l10Back_c (l : List Int) (hl : l.length ≤ 1099511627776) : C 61 [ints l] [] (.loc 0) [row l.reverse] false := by
  refine mkC false false Tryz.func61 rfl ?_; refine And.intro nofun ?_; iterate 2 refine Z ?_
  refine lm ?_; refine nw (by omega) (by omega) ?_; rotate_left; refine loop_up (β := Nat) (fun k => [(3, .loc 0), (4, i64 ((l.length : Int) - 1 - k))]) (fun k => [(0, row ((List.range k).map fun j => l.getD (l.length - 1 - j) 0))]) [1] (fun k => k ≤ l.length) (fun k => l.length - k) (0) ?_ ?_ ?_
  · exact Nat.zero_le _
  · refine weak.mk [1] [0] rfl rfl ?_ ?_
    repeat' first | exact trivial | exact rfl | exact Iff.rfl | assumption | exact pureI | exact (show _ = _ by omega) | exact (show _ ≤ _ by omega) | exact (show _ < _ by omega) | exact (show ¬ _ by omega) | refine And.intro ?_ ?_
  · rintro k hk R hR
    by_cases hkl : k < l.length
    · have hat : l[((l.length : Int) - 1 - k).toNat]'(by omega) = l.getD (l.length - 1 - k) 0 := by
        rw [getI (by omega)]
        congr 1
        omega
      refine tY oky ?_; iterate 2 refine Z ?_
      refine jnm (by omega) (by omega) ?_; refine gmv (by omega) hat ?_; iterate 10 refine Z ?_
      refine leP.mk (by first | (simp [big]; omega) | (simp [big]; done)) ?_; refine ea ?_; refine nw (by omega) (by omega) ?_; rotate_left; refine hR (k + 1) _ _ ?_ ?_; rotate_left; refine weak.mk [] [2] rfl rfl ?_ ?_
      repeat' first | exact trivial | exact rfl | exact Iff.rfl | assumption | exact pureI | exact (show _ = _ by omega) | exact (show _ ≤ _ by omega) | exact (show _ < _ by omega) | exact (show ¬ _ by omega) | refine And.intro ?_ ?_
      rotate_right
      · exact ⟨by omega, by omega⟩
      · exact map_congr (by rw [List.range_succ, List.map_append]; rfl)
    · refine tN okn ?_
      rotate_left; refine doneV.mk [] [0] rfl rfl ?_ ?_ ?_
      repeat' first | exact trivial | exact rfl | exact Iff.rfl | assumption | exact pureI | exact (show _ = _ by omega) | exact (show _ ≤ _ by omega) | exact (show _ < _ by omega) | exact (show ¬ _ by omega) | refine And.intro ?_ ?_
      exact map_congr (by
        have e : k = l.length := by omega
        subst e
        apply List.ext_getElem
        · simp
        · intro j h1 h2
          have h3 : j < l.length := by simpa using h2
          rw [List.getElem_map, List.getElem_reverse, List.getElem_range]
          exact getI (by omega))
theorem l10Gaps_c (n : Int) (l : List Int) (hc : crowd n l) (i : Nat) (hi : i < l.length) : C 60 [.agg [i64 n, ints l], i64 i] [] (.loc 0) [row (gapsR n l i)] false := by
  have hn := hc.1.1
  have hl := hc.1.2
  refine mkC false false Tryz.func60 rfl ?_; refine And.intro nofun ?_; refine Z ?_; refine drawP.mkS (Z (Z ?_)); refine Z ?_
  apply exP.mk
  refine Z ?_
  exact rfl
  apply exP.mk
  exact rfl
  apply exP.mk
  refine lm ?_
  exact rfl
  iterate 3 refine Z ?_
  refine And.intro ?_ ?_; refine Z ?_
  exact rfl
  refine Z ?_; refine And.intro ?_ ?_; refine lm ?_
  exact rfl
  apply exP.mk
  exact rfl
  apply exP.mk
  exact rfl
  rotate_left; refine loop_up (β := Nat) (fun k => [(5, .loc 1), (7, i64 k)]) (fun k => [(1, row (gapsK n l i k))]) [1] (fun k => k ≤ l.length) (fun k => l.length - k) (0) ?_ ?_ ?_
  · exact Nat.zero_le _
  · refine weak.mk [1] [0, 1] rfl rfl ?_ ?_
    repeat' first | exact trivial | exact rfl | exact Iff.rfl | assumption | exact pureI | exact (show _ = _ by omega) | exact (show _ ≤ _ by omega) | exact (show _ < _ by omega) | exact (show ¬ _ by omega) | refine And.intro ?_ ?_
  · rintro k hk R hR
    by_cases hkl : k < l.length
    · have m1 := mod_lt (a := i + k) (m := l.length) (by omega)
      have m2 := mod_lt (a := i + k + 1) (m := l.length) (by omega)
      obtain ⟨A, hA⟩ : ∃ A, l.getD ((i + k) % l.length) 0 = A := ⟨_, rfl⟩
      obtain ⟨B, hB⟩ : ∃ B, l.getD ((i + k + 1) % l.length) 0 = B := ⟨_, rfl⟩
      have f1 : l[(i + k) % ((l.length : Int)).natAbs]'m1 = A := by rw [← hA, getI m1]; rfl
      have f2 : l[(i + k + 1) % ((l.length : Int)).natAbs]'m2 = B := by rw [← hB, getI m2]; rfl
      have x1 : 0 ≤ A ∧ A < n := by rw [← f1]; exact hc.2.1 _ (List.getElem_mem _)
      have x2 : 0 ≤ B ∧ B < n := by rw [← f2]; exact hc.2.1 _ (List.getElem_mem _)
      have g1 : gapAt n l i k = gp n A B := by unfold gapAt; rw [hA, hB]
      have hlk : (gapsK n l i k).length = k := by simp [gapsK]
      refine tY oky ?_; refine drawP.mkS (Z (Z ?_)); refine Z ?_
      apply exP.mk
      refine Z ?_
      exact rfl
      apply exP.mk
      exact rfl
      apply exP.mk
      exact rfl
      apply exP.mk
      exact rfl
      apply exP.mk
      refine nw (by omega) (by omega) ?_
      exact rfl
      apply exP.mk
      exact rfl
      apply exP.mk
      refine And.intro (by omega) ?_; refine ntm (by omega) ?_
      exact rfl
      apply exP.mk
      iterate 2 refine Z ?_
      refine jkm (by simp; omega) ?_
      exact rfl
      apply exP.mk
      refine gmv (by omega) f1 ?_
      exact rfl
      apply exP.mk
      refine Z ?_
      exact rfl
      apply exP.mk
      exact rfl
      apply exP.mk
      exact rfl
      apply exP.mk
      exact rfl
      apply exP.mk
      refine nw (by omega) (by omega) ?_
      exact rfl
      apply exP.mk
      refine nw (by omega) (by omega) ?_
      exact rfl
      apply exP.mk
      exact rfl
      apply exP.mk
      refine And.intro (by omega) ?_; refine ntm (by omega) ?_
      exact rfl
      apply exP.mk
      iterate 2 refine Z ?_
      refine jkm (by simp; omega) ?_
      exact rfl
      apply exP.mk
      refine gm (by simp; omega) ?_
      exact rfl
      apply exP.mk
      exact rfl
      apply exP.mk
      exact rfl
      rotate_left
      rw [f2]
      by_cases h0 : (B - A + n) % n = 0
      · refine nw (by omega) (by omega) ?_
        refine Z ?_; refine nw (by omega) (by omega) ?_; refine Z ?_; refine And.intro (by omega) ?_; refine ntm (by omega) ?_; refine tY oky ?_; iterate 11 refine Z ?_
        refine lem1 (by omega) ?_; refine ea ?_; refine nw (by omega) (by omega) ?_; rotate_left; refine hR (k + 1) _ _ ?_ ?_; rotate_left; refine weak.mk [] [0, 3] rfl rfl ?_ ?_
        repeat' first | exact trivial | exact rfl | exact Iff.rfl | assumption | exact pureI | exact (show _ = _ by omega) | exact (show _ ≤ _ by omega) | exact (show _ < _ by omega) | exact (show ¬ _ by omega) | refine And.intro ?_ ?_
        rotate_right
        · exact ⟨by omega, by omega⟩
        · exact map_congr (by rw [gapsK_succ, g1, gp_0 h0])
      · refine nw (by omega) (by omega) ?_
        refine Z ?_; refine nw (by omega) (by omega) ?_; refine Z ?_; refine And.intro (by omega) ?_; refine ntm (by omega) ?_; refine tN okn ?_; iterate 10 refine Z ?_
        refine lem1 (by omega) ?_; refine ea ?_; refine nw (by omega) (by omega) ?_; rotate_left; refine hR (k + 1) _ _ ?_ ?_; rotate_left; refine weak.mk [] [0, 3] rfl rfl ?_ ?_
        repeat' first | exact trivial | exact rfl | exact Iff.rfl | assumption | exact pureI | exact (show _ = _ by omega) | exact (show _ ≤ _ by omega) | exact (show _ < _ by omega) | exact (show ¬ _ by omega) | refine And.intro ?_ ?_
        rotate_right
        · exact ⟨by omega, by omega⟩
        · exact map_congr (by rw [gapsK_succ, g1, gp_1 h0])
    · refine tN okn ?_
      rotate_left; refine doneV.mk [] [1] rfl rfl ?_ ?_ ?_
      repeat' first | exact trivial | exact rfl | exact Iff.rfl | assumption | exact pureI | exact (show _ = _ by omega) | exact (show _ ≤ _ by omega) | exact (show _ < _ by omega) | exact (show ¬ _ by omega) | refine And.intro ?_ ?_
      exact map_congr (by
        have e : k = l.length := by omega
        rw [e]; rfl)
end Sx
