/- Contracts: a sorted list whose doubles are left out. -/
import Derived.Test.YteaabofmnlbmkaaGreatSyC
import Derived.Test.YteaabofmnlbmkaaGreatCRm
set_option linter.all false
namespace Sx
open Go Go.Proofs
set_option maxRecDepth 100000
set_option maxHeartbeats 8000000
set_option linter.unusedSimpArgs false
set_option linter.unusedSectionVars false
variable [Glb]
theorem CompactD_c (S : List (List Int)) (hS : S.length ≤ 100) (he : ∀ x ∈ S, x.length ≤ 1099511627776) (hn : ¬ noDup S S.length) : C 89 [.loc 0, .fn (.func 90) [] []] [rowI S] (.part 0 0 (cpK S S.length).length) [.row .plain 1 ((cpK S S.length).map ints ++ List.replicate (S.length - (cpK S S.length).length) .nilsl)] true := by
  have h2 : 2 ≤ S.length := by
    rcases Nat.lt_or_ge S.length 2 with h | h
    · exact absurd (fun i h1 h3 => by omega) hn
    · exact h
  refine mkC false false Tryz.func89 rfl ?_; refine And.intro nofun ?_; refine lm ?_; refine tN okn ?_; rotate_left; refine loop_up (β := Nat) (fun k => [(5, i64 k), (4, .unk)]) (fun k => []) [] (fun k => (1 ≤ k ∧ k ≤ S.length) ∧ noDup S k) (fun k => S.length - k) (1) ?_ ?_ ?_
  · exact ⟨⟨Nat.le_refl _, by omega⟩, fun i h1 h3 => by omega⟩
  · refine weak.mk [] [0] rfl rfl ?_ ?_
    repeat' first | exact trivial | exact rfl | exact Iff.rfl | assumption | exact pureI | exact (show _ = _ by omega) | exact (show _ ≤ _ by omega) | exact (show _ < _ by omega) | exact (show ¬ _ by omega) | refine And.intro ?_ ?_
  · rintro k ⟨⟨hk0, hk⟩, hd⟩ R hR
    by_cases hkl : k < S.length
    · have e1 := he _ (List.getElem_mem hkl)
      have e2 := he _ (List.getElem_mem (show k - 1 < S.length by omega))
      by_cases heq : S[k] = S[k - 1]
      · have hml : (List.map ints S).length = S.length := List.length_map ..
        have hdd : ¬ (k = 0 ∨ S.getD k [] ≠ S.getD (k - 1) []) := fun h => by
          rcases h with h | h
          · omega
          · exact h (by rw [getL hkl, getL (by omega)]; exact heq)
        have hck : cpK S (k + 1) = S.take k := by rw [cpK_no hdd, cpK_nd hk hd]
        refine lm ?_; refine tY oky ?_; refine drawP.mkS (Z (Z ?_)); refine Z ?_
        apply exP.mk
        exact rfl
        apply exP.mk
        exact rfl
        apply exP.mk
        exact rfl
        apply exP.mk
        iterate 2 refine Z ?_
        refine jkm (by omega) ?_
        exact rfl
        apply exP.mk
        refine gmv (by omega) heq ?_
        exact rfl
        apply exP.mk
        exact rfl
        apply exP.mk
        exact rfl
        apply exP.mk
        refine nw (by omega) (by omega) ?_
        exact rfl
        apply exP.mk
        iterate 2 refine Z ?_
        refine jmm (by omega) (by omega) ?_
        exact rfl
        apply exP.mk
        refine gm (by omega) ?_
        exact rfl
        refine callW.mk [] 1 _ _ _ (ranks2_c _ _ (by first | omega | assumption | (simp; omega) | (simp; done) | exact trivial | exact he _ (List.getElem_mem _)) (by first | omega | assumption | (simp; omega) | (simp; done) | exact trivial | exact he _ (List.getElem_mem _))) rfl rfl trivial nofun ?_; refine Z ?_; refine tY oky ?_; iterate 2 refine Z ?_
        refine jkm1 (by omega) ?_; rotate_left; refine loop_up (β := Nat × Nat × List (List Int)) (fun (q, c, X) => [(5, i64 c), (7, i64 q)]) (fun (q, c, X) => [(0, rowI X)]) [] (fun (q, c, X) => (1 ≤ q ∧ k + q ≤ S.length) ∧ X.length = S.length ∧ (c = (cpK S (k + q)).length ∧ c ≤ k + q - 1) ∧ X.take c = cpK S (k + q) ∧ ∀ p, k + q - 1 ≤ p → X.getD p [] = S.getD p []) (fun (q, c, X) => S.length - q) ((1, k, S)) ?_ ?_ ?_
        · refine ⟨⟨Nat.le_refl _, by omega⟩, rfl, ⟨by rw [hck, List.length_take]; omega, by omega⟩, hck.symm, fun p _ => rfl⟩
        · refine weak.mk [] [0] rfl rfl ?_ ?_
          repeat' first | exact trivial | exact rfl | exact Iff.rfl | assumption | exact pureI | exact (show _ = _ by omega) | exact (show _ ≤ _ by omega) | exact (show _ < _ by omega) | exact (show ¬ _ by omega) | refine And.intro ?_ ?_
        · rintro ⟨q, c, X⟩ ⟨⟨hq, hkq⟩, hX, ⟨hc, hcl⟩, ht, hp⟩ R2 hR2
          by_cases hql : k + q < S.length
          · have x1 := hp (k + q) (by omega)
            have x2 := hp (k + q - 1) (by omega)
            rw [getL (by omega), getL (by omega)] at x1 x2
            have e3 := he _ (List.getElem_mem hql)
            have e4 := he _ (List.getElem_mem (show k + q - 1 < S.length by omega))
            have ea : k + (q + 1) = k + q + 1 := by omega
            refine tY oky ?_; refine drawP.mkS (Z (Z ?_)); refine Z ?_
            apply exP.mk
            exact rfl
            apply exP.mk
            exact rfl
            apply exP.mk
            exact rfl
            apply exP.mk
            iterate 2 refine Z ?_
            refine jk (by omega) ?_
            exact rfl
            apply exP.mk
            refine gmv (by omega) x1 ?_
            exact rfl
            apply exP.mk
            exact rfl
            apply exP.mk
            exact rfl
            apply exP.mk
            refine nw (by omega) (by omega) ?_
            exact rfl
            apply exP.mk
            iterate 2 refine Z ?_
            refine jn (by omega) (by omega) ?_
            exact rfl
            apply exP.mk
            refine gmv (by omega) x2 ?_
            exact rfl
            refine callW.mk [] 1 _ _ _ (ranks2_c _ _ (by first | omega | assumption | (simp; omega) | (simp; done) | exact trivial | exact he _ (List.getElem_mem _)) (by first | omega | assumption | (simp; omega) | (simp; done) | exact trivial | exact he _ (List.getElem_mem _))) rfl rfl trivial nofun ?_; refine Z ?_
            apply exP.mk
            exact rfl
            refine twoN (fun _ => ?_) (fun _ => ?_); iterate 2 refine Z ?_
            refine jk (by omega) ?_; refine gmv (by omega) x1 ?_; iterate 2 refine Z ?_
            refine jkm (by omega) ?_; iterate 2 refine Z ?_
            refine gm (by omega) ?_; refine Z ?_; refine eset' ?_; iterate 2 refine nw (by omega) (by omega) ?_
            rotate_left; refine nw (by omega) (by omega) ?_
            rotate_left
            · rename_i hne
              have hcy := cpK_yes (S := S) (j := k + q) (.inr (by rw [getL (by omega), getL (by omega)]; exact hne))
              refine hR2 ((q + 1, c + 1, X.set c (S[k + q]))) _ _ ?_ ?_; rotate_left; refine weak.mk [] [0] rfl rfl ?_ ?_
              repeat' first | exact trivial | exact rfl | exact Iff.rfl | assumption | exact pureI | exact (show _ = _ by omega) | exact (show _ ≤ _ by omega) | exact (show _ < _ by omega) | exact (show ¬ _ by omega) | refine And.intro ?_ ?_
              rotate_right; refine ⟨⟨⟨by omega, by omega⟩, by rw [List.length_set]; exact hX, ⟨by rw [ea, hcy, List.length_append, List.length_singleton]; omega, by omega⟩, ?_, fun p hp2 => ?_⟩, by show S.length - (q + 1) < S.length - q; omega⟩
              · rw [ea, hcy, take_snoc (by rw [List.length_set]; omega), List.getElem_set_self, List.take_set, List.set_eq_of_length_le (by rw [List.length_take]; omega), ht, getL (by omega)]
              · rw [getD_setL (by omega), if_neg (by omega)]
                exact hp p (by omega)
            · rename_i hne
              have hcn := cpK_no (S := S) (j := k + q) (fun h => by
                rcases h with h | h
                · omega
                · exact h (by rw [getL (by omega), getL (by omega)]; exact hne))
              refine hR2 ((q + 1, c, X)) _ _ ?_ ?_; rotate_left; refine weak.mk [] [0] rfl rfl ?_ ?_
              repeat' first | exact trivial | exact rfl | exact Iff.rfl | assumption | exact pureI | exact (show _ = _ by omega) | exact (show _ ≤ _ by omega) | exact (show _ < _ by omega) | exact (show ¬ _ by omega) | refine And.intro ?_ ?_
              rotate_right
              exact ⟨⟨⟨by omega, by omega⟩, hX, ⟨by rw [ea, hcn]; exact hc, by omega⟩, by rw [ea, hcn]; exact ht, fun p hp2 => hp p (by omega)⟩, by show S.length - (q + 1) < S.length - q; omega⟩
          · have em : k + q = S.length := by omega
            rw [em] at hc ht
            refine tN okn ?_; iterate 2 refine Z ?_
            refine jkm1 (by omega) ?_; iterate 4 refine Z ?_
            refine er ?_; iterate 2 refine Z ?_
            refine jn (by omega) (by simp; omega) ?_; rotate_left; refine doneV.mk [] [0] rfl rfl ?_ ?_ ?_
            repeat' first | exact trivial | exact rfl | exact Iff.rfl | assumption | exact pureI | exact (show _ = _ by omega) | exact (show _ ≤ _ by omega) | exact (show _ < _ by omega) | exact (show ¬ _ by omega) | refine And.intro ?_ ?_
            · exact congrArg (AV.part 0 0) (by omega)
            · rw [List.drop_of_length_le (by rw [List.length_map]; omega), List.append_nil, ← List.map_take, ht, List.length_map, hX, hc]; rfl
      · refine lm ?_
        refine tY oky ?_; refine drawP.mkS (Z (Z ?_)); refine Z ?_
        apply exP.mk
        exact rfl
        apply exP.mk
        exact rfl
        apply exP.mk
        exact rfl
        apply exP.mk
        iterate 2 refine Z ?_
        refine jkm (by omega) ?_
        exact rfl
        apply exP.mk
        refine gm (by omega) ?_
        exact rfl
        apply exP.mk
        exact rfl
        apply exP.mk
        exact rfl
        apply exP.mk
        refine nw (by omega) (by omega) ?_
        exact rfl
        apply exP.mk
        iterate 2 refine Z ?_
        refine jmm (by omega) (by omega) ?_
        exact rfl
        apply exP.mk
        refine gm (by omega) ?_
        exact rfl
        refine callW.mk [] 1 _ _ _ (ranks2_c _ _ (by first | omega | assumption | (simp; omega) | (simp; done) | exact trivial | exact he _ (List.getElem_mem _)) (by first | omega | assumption | (simp; omega) | (simp; done) | exact trivial | exact he _ (List.getElem_mem _))) rfl rfl trivial nofun ?_; refine Z ?_; refine tN okn ?_; refine nw (by omega) (by omega) ?_; rotate_left; refine hR (k + 1) _ _ ?_ ?_; rotate_left; refine weak.mk [] [0] rfl rfl ?_ ?_
        repeat' first | exact trivial | exact rfl | exact Iff.rfl | assumption | exact pureI | exact (show _ = _ by omega) | exact (show _ ≤ _ by omega) | exact (show _ < _ by omega) | exact (show ¬ _ by omega) | refine And.intro ?_ ?_
        rotate_right; refine ⟨⟨⟨by omega, by omega⟩, fun i h1 h3 => ?_⟩, by omega⟩
        by_cases e : i = k
        · subst e; rw [getL hkl, getL (by omega)]; exact heq
        · exact hd i h1 (by omega)
    · exact absurd (by rwa [show k = S.length by omega] at hd) hn
end Sx
