/- Contracts: gaps to both sides. -/
import Derived.Test.YteaabofmnlbmkaaGreatSyC
import Derived.Test.YteaabofmnlbmkaaGreatCRg
import Derived.Test.YteaabofmnlbmkaaGreatMxA
set_option linter.all false
namespace Sx
open Go Go.Proofs
set_option maxRecDepth 100000
set_option maxHeartbeats 8000000
set_option linter.unusedSimpArgs false
set_option linter.unusedSectionVars false
variable [Glb]
theorem gapsRight_c (n : Int) (l : List Int) (hc : crowd n l) (i : Nat) (hi : i < l.length) : C 59 [.agg [i64 n, ints l], i64 i, i64 1] [] (.loc 0) [row (gapsR n l i)] false := by
  have hn := hc.1.1
  have hl := hc.1.2
  refine mkC false false Tryz.func59 rfl ?_; refine And.intro nofun ?_; iterate 2 refine Z ?_
  refine lm ?_; iterate 2 refine Z ?_
  rotate_left; refine loop_up (β := Nat) (fun k => [(8, .loc 1), (18, i64 k)]) (fun k => [(1, row (gapsK n l i k))]) [1] (fun k => k ≤ l.length) (fun k => l.length - k) (0) ?_ ?_ ?_
  · exact Nat.zero_le _
  · refine weak.mk [1] [0, 1] rfl rfl ?_ ?_
    repeat' first | exact trivial | exact rfl | exact Iff.rfl | assumption | exact pureI | exact (show _ = _ by omega) | exact (show _ ≤ _ by omega) | exact (show _ < _ by omega) | exact (show ¬ _ by omega) | refine And.intro ?_ ?_
  · rintro k hk R hR
    have hlk : (gapsK n l i k).length = k := by simp [gapsK]
    have hmp : (0 : Int) < (l.length : Int) := by omega
    have q1 := Int.emod_nonneg ((i : Int) + (k : Int) * 1) (show (l.length : Int) ≠ 0 by omega)
    have q2 := Int.emod_lt_of_pos ((i : Int) + (k : Int) * 1) hmp
    have q3 := Int.emod_nonneg ((i : Int) + (k : Int) * 1 + l.length) (show (l.length : Int) ≠ 0 by omega)
    have q5 := Int.emod_nonneg (((i : Int) + (k : Int) * 1) % l.length + l.length) (show (l.length : Int) ≠ 0 by omega)
    have q6 := Int.emod_lt_of_pos (((i : Int) + (k : Int) * 1) % l.length + l.length) hmp
    have q7 := Int.emod_nonneg ((i : Int) + ((k : Int) + 1) * 1) (show (l.length : Int) ≠ 0 by omega)
    have q8 := Int.emod_lt_of_pos ((i : Int) + ((k : Int) + 1) * 1) hmp
    have q9 := Int.emod_nonneg (((i : Int) + ((k : Int) + 1) * 1) % l.length + l.length) (show (l.length : Int) ≠ 0 by omega)
    have qa := Int.emod_lt_of_pos (((i : Int) + ((k : Int) + 1) * 1) % l.length + l.length) hmp
    by_cases hkl : k < l.length
    · obtain ⟨A, hA⟩ : ∃ A, l.getD ((i + k) % l.length) 0 = A := ⟨_, rfl⟩
      obtain ⟨B, hB⟩ : ∃ B, l.getD ((i + k + 1) % l.length) 0 = B := ⟨_, rfl⟩
      have z1 : ((((i : Int) + (k : Int) * 1) % l.length + l.length) % l.length).toNat = (i + k) % l.length := by
        rw [Int.add_emod_right, Int.emod_emod, Int.mul_one, ← Int.natCast_add, ← Int.natCast_emod, Int.toNat_natCast]
      have z2 : ((((i : Int) + ((k : Int) + 1) * 1) % l.length + l.length) % l.length).toNat = (i + k + 1) % l.length := by
        rw [Int.add_emod_right, Int.emod_emod, Int.mul_one, show (i : Int) + ((k : Int) + 1) = ((i + k + 1 : Nat) : Int) by omega, ← Int.natCast_emod, Int.toNat_natCast]
      have m1 := mod_lt (a := i + k) (m := l.length) (by omega)
      have m2 := mod_lt (a := i + k + 1) (m := l.length) (by omega)
      have y1 : ((i + k * 1) % ((l.length : Int)).natAbs + l.length) % ((l.length : Int)).natAbs = (i + k) % l.length := by
        show ((i + k * 1) % l.length + l.length) % l.length = _
        rw [Nat.add_mod_right, Nat.mod_mod, Nat.mul_one]
      have y2 : ((i + (k + 1) * 1) % ((l.length : Int)).natAbs + l.length) % ((l.length : Int)).natAbs = (i + k + 1) % l.length := by
        show ((i + (k + 1) * 1) % l.length + l.length) % l.length = _
        rw [Nat.add_mod_right, Nat.mod_mod, Nat.mul_one, Nat.add_assoc]
      have f1 : l[((i + k * 1) % ((l.length : Int)).natAbs + l.length) % ((l.length : Int)).natAbs]'(by rw [y1]; exact m1) = A := by
        have := getI (l := l) (i := ((i + k * 1) % ((l.length : Int)).natAbs + l.length) % ((l.length : Int)).natAbs) (by rw [y1]; exact m1)
        rw [← this, y1, hA]
      have f2 : l[((i + (k + 1) * 1) % ((l.length : Int)).natAbs + l.length) % ((l.length : Int)).natAbs]'(by rw [y2]; exact m2) = B := by
        have := getI (l := l) (i := ((i + (k + 1) * 1) % ((l.length : Int)).natAbs + l.length) % ((l.length : Int)).natAbs) (by rw [y2]; exact m2)
        rw [← this, y2, hB]
      have x1 : 0 ≤ A ∧ A < n := by rw [← f1]; exact hc.2.1 _ (List.getElem_mem _)
      have x2 : 0 ≤ B ∧ B < n := by rw [← f2]; exact hc.2.1 _ (List.getElem_mem _)
      have g1 : gapAt n l i k = gp n A B := by unfold gapAt; rw [hA, hB]
      by_cases h0 : (B - A + n) % n = 0
      · have h1 : ((B - A) * 1 + n) % n = 0 := by rw [Int.mul_one]; exact h0
        refine tY oky ?_; refine drawP.mkS (Z (Z ?_)); refine Z ?_
        apply exP.mk
        refine Z ?_
        exact rfl
        apply exP.mk
        exact rfl
        apply exP.mk
        exact rfl
        apply exP.mk
        exact rfl
        apply exP.mk
        exact rfl
        apply exP.mk
        refine nw (by omega) (by omega) ?_
        exact rfl
        apply exP.mk
        refine nw (by omega) (by omega) ?_
        exact rfl
        apply exP.mk
        exact rfl
        apply exP.mk
        refine And.intro (by omega) ?_; refine ntm (by omega) ?_
        exact rfl
        apply exP.mk
        exact rfl
        apply exP.mk
        refine nw (by omega) (by omega) ?_
        exact rfl
        apply exP.mk
        exact rfl
        apply exP.mk
        refine And.intro (by omega) ?_; refine ntm (by omega) ?_
        exact rfl
        apply exP.mk
        iterate 2 refine Z ?_
        refine jkm (by simp; omega) ?_
        exact rfl
        apply exP.mk
        refine gm (by simp; omega) ?_
        exact rfl
        apply exP.mk
        exact rfl
        refine drawP.mkS (Z (Z ?_)); refine Z ?_
        apply exP.mk
        refine Z ?_
        exact rfl
        apply exP.mk
        exact rfl
        apply exP.mk
        exact rfl
        apply exP.mk
        exact rfl
        apply exP.mk
        refine nw (by omega) (by omega) ?_
        exact rfl
        apply exP.mk
        exact rfl
        apply exP.mk
        refine nw (by omega) (by omega) ?_
        exact rfl
        apply exP.mk
        refine nw (by omega) (by omega) ?_
        exact rfl
        apply exP.mk
        exact rfl
        apply exP.mk
        refine And.intro (by omega) ?_; refine ntm (by omega) ?_
        exact rfl
        apply exP.mk
        exact rfl
        apply exP.mk
        refine nw (by omega) (by omega) ?_
        exact rfl
        apply exP.mk
        exact rfl
        apply exP.mk
        refine And.intro (by omega) ?_; refine ntm (by omega) ?_
        exact rfl
        apply exP.mk
        iterate 2 refine Z ?_
        refine jkm (by simp; omega) ?_
        exact rfl
        apply exP.mk
        refine gm (by simp; omega) ?_
        exact rfl
        apply exP.mk
        exact rfl
        rotate_left
        rw [f1, f2]
        iterate 2 refine nw (by omega) (by omega) ?_
        refine Z ?_; refine nw (by omega) (by omega) ?_; refine Z ?_; refine And.intro (by omega) ?_; refine ntm (by omega) ?_; refine tY oky ?_; iterate 11 refine Z ?_
        refine lem1 (by omega) ?_; refine ea ?_; refine nw (by omega) (by omega) ?_; rotate_left; refine hR (k + 1) _ _ ?_ ?_; rotate_left; refine weak.mk [] [0, 3] rfl rfl ?_ ?_
        repeat' first | exact trivial | exact rfl | exact Iff.rfl | assumption | exact pureI | exact (show _ = _ by omega) | exact (show _ ≤ _ by omega) | exact (show _ < _ by omega) | exact (show ¬ _ by omega) | refine And.intro ?_ ?_
        rotate_right
        · exact ⟨by omega, by omega⟩
        · exact map_congr (by rw [gapsK_succ, g1, gp_0 h0])
      · have h1 : ¬ ((B - A) * 1 + n) % n = 0 := by rw [Int.mul_one]; exact h0
        refine tY oky ?_; refine drawP.mkS (Z (Z ?_)); refine Z ?_
        apply exP.mk
        refine Z ?_
        exact rfl
        apply exP.mk
        exact rfl
        apply exP.mk
        exact rfl
        apply exP.mk
        exact rfl
        apply exP.mk
        exact rfl
        apply exP.mk
        refine nw (by omega) (by omega) ?_
        exact rfl
        apply exP.mk
        refine nw (by omega) (by omega) ?_
        exact rfl
        apply exP.mk
        exact rfl
        apply exP.mk
        refine And.intro (by omega) ?_; refine ntm (by omega) ?_
        exact rfl
        apply exP.mk
        exact rfl
        apply exP.mk
        refine nw (by omega) (by omega) ?_
        exact rfl
        apply exP.mk
        exact rfl
        apply exP.mk
        refine And.intro (by omega) ?_; refine ntm (by omega) ?_
        exact rfl
        apply exP.mk
        iterate 2 refine Z ?_
        refine jkm (by simp; omega) ?_
        exact rfl
        apply exP.mk
        refine gm (by simp; omega) ?_
        exact rfl
        apply exP.mk
        exact rfl
        refine drawP.mkS (Z (Z ?_)); refine Z ?_
        apply exP.mk
        refine Z ?_
        exact rfl
        apply exP.mk
        exact rfl
        apply exP.mk
        exact rfl
        apply exP.mk
        exact rfl
        apply exP.mk
        refine nw (by omega) (by omega) ?_
        exact rfl
        apply exP.mk
        exact rfl
        apply exP.mk
        refine nw (by omega) (by omega) ?_
        exact rfl
        apply exP.mk
        refine nw (by omega) (by omega) ?_
        exact rfl
        apply exP.mk
        exact rfl
        apply exP.mk
        refine And.intro (by omega) ?_; refine ntm (by omega) ?_
        exact rfl
        apply exP.mk
        exact rfl
        apply exP.mk
        refine nw (by omega) (by omega) ?_
        exact rfl
        apply exP.mk
        exact rfl
        apply exP.mk
        refine And.intro (by omega) ?_; refine ntm (by omega) ?_
        exact rfl
        apply exP.mk
        iterate 2 refine Z ?_
        refine jkm (by simp; omega) ?_
        exact rfl
        apply exP.mk
        refine gm (by simp; omega) ?_
        exact rfl
        apply exP.mk
        exact rfl
        rotate_left
        rw [f1, f2]
        iterate 2 refine nw (by omega) (by omega) ?_
        refine Z ?_; refine nw (by omega) (by omega) ?_; refine Z ?_; refine And.intro (by omega) ?_; refine ntm (by omega) ?_; refine tN okn ?_; iterate 10 refine Z ?_
        refine lem1 (by omega) ?_; refine ea ?_; refine nw (by omega) (by omega) ?_; rotate_left; refine hR (k + 1) _ _ ?_ ?_; rotate_left; refine weak.mk [] [0, 3] rfl rfl ?_ ?_
        repeat' first | exact trivial | exact rfl | exact Iff.rfl | assumption | exact pureI | exact (show _ = _ by omega) | exact (show _ ≤ _ by omega) | exact (show _ < _ by omega) | exact (show ¬ _ by omega) | refine And.intro ?_ ?_
        rotate_right
        · exact ⟨by omega, by omega⟩
        · exact map_congr (by rw [gapsK_succ, g1, gp_1 h0, Int.mul_one])
    · refine tN okn ?_
      rotate_left; refine doneV.mk [] [1] rfl rfl ?_ ?_ ?_
      repeat' first | exact trivial | exact rfl | exact Iff.rfl | assumption | exact pureI | exact (show _ = _ by omega) | exact (show _ ≤ _ by omega) | exact (show _ < _ by omega) | exact (show ¬ _ by omega) | refine And.intro ?_ ?_
      exact map_congr (by
        have e : k = l.length := by omega
        rw [e]; rfl)
end Sx
