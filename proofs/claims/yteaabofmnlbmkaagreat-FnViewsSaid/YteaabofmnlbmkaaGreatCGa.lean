/- Contracts: what the laws compare with. -/
import Derived.Test.YteaabofmnlbmkaaGreatSyC
import Derived.Test.YteaabofmnlbmkaaGreatCa
import Derived.Test.YteaabofmnlbmkaaGreatMxA
import Derived.Test.YteaabofmnlbmkaaGreatMxVf
set_option linter.all false
namespace Sx
open Go Go.Proofs
set_option maxRecDepth 100000
set_option maxHeartbeats 8000000
set_option linter.unusedSimpArgs false
set_option linter.unusedSectionVars false
variable [Glb]
theorem rBig_c (L : List UInt8) (hL : L.length ≤ 9223372036854775807) : C 5 [.sl 1 (L.map i8)] [] (pr (65536 < (L.length : Int))) [] false := by
  refine mkC false false Tryz.func5 rfl ?_; refine And.intro nofun ?_; refine lm ?_; rotate_left; refine doneV.mk [] [] rfl rfl ?_ ?_ ?_
  repeat' first | exact trivial | exact rfl | exact Iff.rfl | assumption | exact pureI | exact (show _ = _ by omega) | exact (show _ ≤ _ by omega) | exact (show _ < _ by omega) | exact (show ¬ _ by omega) | refine And.intro ?_ ?_
theorem rInts_c (a b : List Int) (hl : a.length ≤ 1099511627776) (hb : b.length ≤ 1099511627776) : C 10 [ints a, ints b] [] (pr (a = b)) [] false := by
  refine mkC false false Tryz.func10 rfl ?_; refine And.intro nofun ?_; iterate 2 refine lm ?_
  refine twoN (fun _ => ?_) (fun _ => ?_); iterate 2 rotate_left
  · rename_i h1
    refine dv0 rfl ?_
    exact fun h => h1 (by rw [h])
  · rename_i h1
    refine loop_up (β := Nat) (fun k => [(5, i64 k), (4, .unk)]) (fun k => []) [] (fun k => k ≤ a.length ∧ a.take k = b.take k) (fun k => a.length - k) (0) ?_ ?_ ?_
    · simp
    · refine weak.mk [] [] rfl rfl ?_ ?_
      repeat' first | exact trivial | exact rfl | exact Iff.rfl | assumption | refine And.intro ?_ ?_
    · rintro k ⟨hk, hi⟩ R hR
      refine lm ?_; refine twoP.mk (fun _ => ?_) (fun _ => ?_); refine drawP.mk 9 (Z (Z (Z (Z ?_))))
      apply exP.mk
      exact rfl
      apply exP.mk
      exact rfl
      apply exP.mk
      iterate 2 refine Z ?_
      refine jkm (by omega) ?_
      exact rfl
      apply exP.mk
      refine gm (by omega) ?_
      exact rfl
      apply exP.mk
      exact rfl
      apply exP.mk
      exact rfl
      apply exP.mk
      iterate 2 refine Z ?_
      refine jkm (by omega) ?_
      exact rfl
      apply exP.mk
      refine gm (by omega) ?_
      exact rfl
      apply exP.mk
      exact rfl
      refine twoN (fun _ => ?_) (fun _ => ?_); rotate_left; refine nw (by omega) (by omega) ?_; iterate 2 rotate_left
      · rename_i h2 h3
        refine dv0 rfl ?_
        exact fun h => h3 (by subst h; rfl)
      · rename_i h2 h3
        refine hR (k + 1) _ _ ?_ (weak.mk [] [] rfl rfl ?_ ?_)
        repeat' first | exact trivial | exact rfl | exact Iff.rfl | assumption | refine And.intro ?_ ?_
        exact ⟨⟨by omega, (eq_take (by omega) (by omega)).2 ⟨hi, h3⟩⟩, by omega⟩
      · rename_i h2
        rw [take_all h2, take_all (by omega)] at hi
        refine dv0 rfl ?_
        exact hi
theorem rHas_c (l : List Int) (hl : l.length ≤ 1099511627776) (x : Int) : C 27 [ints l, i64 x] [] (pr (x ∈ l)) [] false := by
  refine mkC false false Tryz.func27 rfl ?_; refine And.intro nofun ?_; rotate_left; refine loop_up (β := Nat) (fun k => [(5, i64 k), (4, .unk)]) (fun k => []) [] (fun k => k ≤ l.length ∧ x ∉ l.take k) (fun k => l.length - k) (0) ?_ ?_ ?_
  · exact ⟨Nat.zero_le _, fun h => by simp at h⟩
  · refine weak.mk [] [] rfl rfl ?_ ?_
    repeat' first | exact trivial | exact rfl | exact Iff.rfl | assumption | exact pureI | exact (show _ = _ by omega) | exact (show _ ≤ _ by omega) | exact (show _ < _ by omega) | exact (show ¬ _ by omega) | refine And.intro ?_ ?_
  · rintro k ⟨hk, hi⟩ R hR
    by_cases hkl : k < l.length
    · by_cases he : l[k] = x
      · have hm : x ∈ l := he ▸ List.getElem_mem hkl
        refine lm ?_; refine tY oky ?_; iterate 2 refine Z ?_
        refine jkm (by omega) ?_; refine gmv (by omega) he ?_; refine tY oky ?_; rotate_left; refine doneV.mk [] [] rfl rfl ?_ ?_ ?_
        repeat' first | exact trivial | exact rfl | exact Iff.rfl | assumption | exact pureI | exact (show _ = _ by omega) | exact (show _ ≤ _ by omega) | exact (show _ < _ by omega) | exact (show ¬ _ by omega) | refine And.intro ?_ ?_
        all_goals exact hm
      · refine lm ?_
        refine tY oky ?_; iterate 2 refine Z ?_
        refine jkm (by omega) ?_; refine gm (by omega) ?_; refine tN okn ?_; refine nw (by omega) (by omega) ?_; rotate_left; refine hR (k + 1) _ _ ?_ ?_; rotate_left; refine weak.mk [] [] rfl rfl ?_ ?_
        repeat' first | exact trivial | exact rfl | exact Iff.rfl | assumption | exact pureI | exact (show _ = _ by omega) | exact (show _ ≤ _ by omega) | exact (show _ < _ by omega) | exact (show ¬ _ by omega) | refine And.intro ?_ ?_
        rotate_right; refine ⟨⟨by omega, fun h => ?_⟩, by omega⟩
        rw [take_snoc hkl] at h
        rcases List.mem_append.1 h with h | h
        · exact hi h
        · exact he (List.mem_singleton.1 h).symm
    · rw [List.take_of_length_le (by omega)] at hi
      refine lm ?_; refine tN okn ?_; rotate_left; refine doneV.mk [] [] rfl rfl ?_ ?_ ?_
      repeat' first | exact trivial | exact rfl | exact Iff.rfl | assumption | exact pureI | exact (show _ = _ by omega) | exact (show _ ≤ _ by omega) | exact (show _ < _ by omega) | exact (show ¬ _ by omega) | refine And.intro ?_ ?_
      all_goals exact hi
theorem rSum_c (l : List Int) (hl : l.length ≤ 1000) (hb : ∀ x ∈ l, 0 ≤ x ∧ x ≤ 1000) : C 22 [ints l] [] (i64 l.sum) [] false := by
  refine mkC false false Tryz.func22 rfl ?_; refine And.intro nofun ?_; rotate_left; refine loop_up (β := Nat) (fun k => [(3, i64 (l.take k).sum), (4, i64 k)]) (fun k => []) [] (fun k => k ≤ l.length) (fun k => l.length - k) (0) ?_ ?_ ?_
  · exact Nat.zero_le _
  · refine weak.mk [] [] rfl rfl ?_ ?_
    repeat' first | exact trivial | exact rfl | exact Iff.rfl | assumption | exact pureI | exact (show _ = _ by omega) | exact (show _ ≤ _ by omega) | exact (show _ < _ by omega) | exact (show ¬ _ by omega) | refine And.intro ?_ ?_
  · rintro k hk R hR
    have hs := sum_bd (M := 1000) (by decide) hb k hk
    by_cases hkl : k < l.length
    · have hx := hb _ (List.getElem_mem hkl)
      have hn := sum_snoc hkl
      refine lm ?_; refine tY oky ?_; iterate 2 refine Z ?_
      refine jkm (by omega) ?_; refine gm (by omega) ?_; iterate 2 refine nw (by omega) (by omega) ?_
      rotate_left; refine hR (k + 1) _ _ ?_ ?_
      rotate_left; refine weak.mk [] [] rfl rfl ?_ ?_
      repeat' first | exact trivial | exact rfl | exact Iff.rfl | assumption | exact pureI | exact (show _ = _ by omega) | exact (show _ ≤ _ by omega) | exact (show _ < _ by omega) | exact (show ¬ _ by omega) | refine And.intro ?_ ?_
      rotate_right
      exact ⟨by omega, by omega⟩
    · rw [List.take_of_length_le (by omega)]
      refine lm ?_; refine tN okn ?_; rotate_left; refine doneV.mk [] [] rfl rfl ?_ ?_ ?_
      repeat' first | exact trivial | exact rfl | exact Iff.rfl | assumption | exact pureI | exact (show _ = _ by omega) | exact (show _ ≤ _ by omega) | exact (show _ < _ by omega) | exact (show ¬ _ by omega) | refine And.intro ?_ ?_
end Sx
