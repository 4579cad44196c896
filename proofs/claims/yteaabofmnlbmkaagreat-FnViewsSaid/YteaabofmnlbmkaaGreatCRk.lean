/- Contracts: lists of lists that are sorted by a function. -/
import Derived.Test.YteaabofmnlbmkaaGreatSyC
import Derived.Test.YteaabofmnlbmkaaGreatCRj
import Derived.Test.YteaabofmnlbmkaaGreatMxA
set_option linter.all false
namespace Sx
open Go Go.Proofs
set_option maxRecDepth 100000
set_option maxHeartbeats 8000000
set_option linter.unusedSimpArgs false
set_option linter.unusedSectionVars false
variable [Glb]
abbrev rowI (L : List (List Int)) : Ent := .row .plain 1 (L.map ints)
theorem ranks1_c (a b : List Int) (ha : a.length ≤ 1099511627776) (hb : b.length ≤ 1099511627776) : C 85 [ints a, ints b] [] (i64 (cmpL a b)) [] false := by
  refine mkC false false Tryz.func85 rfl ?_; refine And.intro nofun ?_; refine callW.mk [] 0 _ _ _ (Compare_c _ _ oka oka) rfl rfl trivial nofun ?_; rotate_left; refine doneV.mk [] [] rfl rfl ?_ ?_ ?_
  repeat' first | exact trivial | exact rfl | exact Iff.rfl | assumption | exact pureI | exact (show _ = _ by omega) | exact (show _ ≤ _ by omega) | exact (show _ < _ by omega) | exact (show ¬ _ by omega) | refine And.intro ?_ ?_
theorem insertionSortF_c (l : List (List Int)) (hl : l.length ≤ 100) (he : ∀ x ∈ l, x.length ≤ 1099511627776) (n : Int) (hn : n = l.length) : CE 132 [.loc 0, i64 0, i64 n, .fn (.func 85) [] []] [rowI l] (fun M : List (List Int) => M.Perm l ∧ sortUL M M.length) (fun _ => .tuple []) (fun M => [rowI M]) true := by
  subst hn
  refine mkE false false Tryz.func132 rfl ?_; refine And.intro nofun ?_; refine nw (by omega) (by omega) ?_; rotate_left; refine loop_up (β := Nat × List (List Int)) (fun (i, X) => [(8, i64 i)]) (fun (i, X) => [(0, rowI X)]) [] (fun (i, X) => 1 ≤ i ∧ X.Perm l ∧ (i ≤ l.length ∨ i = 1) ∧ sortUL X i) (fun (i, X) => l.length - i) ((1, l)) ?_ ?_ ?_
  · exact ⟨by omega, List.Perm.refl _, .inr rfl, fun p q h1 h2 => by omega⟩
  · refine weak.mk [] [0] rfl rfl ?_ ?_
    repeat' first | exact trivial | exact rfl | exact Iff.rfl | assumption | exact pureI | exact (show _ = _ by omega) | exact (show _ ≤ _ by omega) | exact (show _ < _ by omega) | exact (show ¬ _ by omega) | refine And.intro ?_ ?_
  · rintro ⟨i, X⟩ ⟨hi, hp, hi2, hs⟩ R hR
    have hXl := hp.length_eq
    by_cases hil : i < l.length
    · refine tY oky ?_
      rotate_left; refine loop_up (β := Nat × List (List Int)) (fun (j, Y) => [(9, i64 j)]) (fun (j, Y) => [(0, rowI Y)]) [] (fun (j, Y) => j ≤ i ∧ Y.Perm l ∧ sortIL Y i j) (fun (j, Y) => j) ((i, X)) ?_ ?_ ?_
      · exact ⟨Nat.le_refl _, hp, sortIL_start hs⟩
      · refine weak.mk [] [0] rfl rfl ?_ ?_
        repeat' first | exact trivial | exact rfl | exact Iff.rfl | assumption | exact pureI | exact (show _ = _ by omega) | exact (show _ ≤ _ by omega) | exact (show _ < _ by omega) | exact (show ¬ _ by omega) | refine And.intro ?_ ?_
      · rintro ⟨j, Y⟩ ⟨hj, hq, ht⟩ R2 hR2
        have hYl := hq.length_eq
        by_cases hj0 : 0 < j
        · have hY : ∀ x ∈ Y, x.length ≤ 1099511627776 := fun x hx => he x (hq.mem_iff.1 hx)
          have e1 := hY _ (List.getElem_mem (show j < Y.length by omega))
          have e2 := hY _ (List.getElem_mem (show j - 1 < Y.length by omega))
          by_cases hlt : cmpL Y[j] Y[j - 1] < 0
          · refine drawP.mk 17 (Z (Z (Z (Z ?_))))
            apply exP.mk
            exact rfl
            apply exP.mk
            exact rfl
            apply exP.mk
            exact rfl
            apply exP.mk
            exact rfl
            refine tY oky ?_
            apply exP.mk
            exact rfl
            apply exP.mk
            exact rfl
            apply exP.mk
            exact rfl
            apply exP.mk
            iterate 2 refine Z ?_
            refine jkm (by omega) ?_
            exact rfl
            apply exP.mk
            refine gm (by omega) ?_
            exact rfl
            apply exP.mk
            exact rfl
            apply exP.mk
            exact rfl
            apply exP.mk
            refine nw (by omega) (by omega) ?_
            exact rfl
            apply exP.mk
            iterate 2 refine Z ?_
            refine jmm (by omega) (by omega) ?_
            exact rfl
            apply exP.mk
            refine gm (by omega) ?_
            exact rfl
            apply exP.mk
            refine callP.mk _ _ _ (ranks1_c _ _ (by first | omega | assumption | (simp; omega) | (simp; done) | exact trivial | exact he _ (List.getElem_mem _) | exact hY _ (List.getElem_mem _)) (by first | omega | assumption | (simp; omega) | (simp; done) | exact trivial | exact he _ (List.getElem_mem _) | exact hY _ (List.getElem_mem _))) trivial nofun trivial ?_
            exact rfl
            apply exP.mk
            exact rfl
            refine tY oky ?_; refine drawP.mkS (Z (Z ?_)); refine Z ?_
            apply exP.mk
            exact rfl
            apply exP.mk
            exact rfl
            apply exP.mk
            exact rfl
            apply exP.mk
            exact rfl
            apply exP.mk
            refine nw (by omega) (by omega) ?_
            exact rfl
            apply exP.mk
            exact rfl
            apply exP.mk
            exact rfl
            apply exP.mk
            refine nw (by omega) (by omega) ?_
            exact rfl
            apply exP.mk
            iterate 2 refine Z ?_
            refine jmm (by omega) (by omega) ?_
            exact rfl
            apply exP.mk
            refine gm (by omega) ?_
            exact rfl
            apply exP.mk
            exact rfl
            apply exP.mk
            exact rfl
            apply exP.mk
            iterate 2 refine Z ?_
            refine jkm (by omega) ?_
            exact rfl
            apply exP.mk
            refine gm (by omega) ?_
            exact rfl
            apply exP.mk
            iterate 2 refine Z ?_
            refine jkm (by omega) ?_
            exact rfl
            iterate 2 refine Z ?_
            refine gm (by omega) ?_; refine Z ?_; refine eset' ?_; iterate 3 refine Z ?_
            refine And.intro ?_ ?_; refine nw (by omega) (by omega) ?_
            exact rfl
            apply exP.mk
            iterate 2 refine Z ?_
            refine jnm (by omega) (by simp; omega) ?_
            exact rfl
            iterate 2 refine Z ?_
            refine gm (by simp; omega) ?_; refine Z ?_; refine eset' ?_; refine Z ?_; refine nw (by omega) (by omega) ?_; rotate_left; refine hR2 ((j - 1, swpL Y j)) _ _ ?_ ?_; rotate_left; refine weak.mk [] [0] rfl rfl ?_ ?_
            repeat' first | exact trivial | exact rfl | exact Iff.rfl | assumption | exact pureI | exact (show _ = _ by omega) | exact (show _ ≤ _ by omega) | exact (show _ < _ by omega) | exact (show ¬ _ by omega) | refine And.intro ?_ ?_
            rotate_right
            · refine ⟨⟨by omega, (swpL_perm hj0 (by omega)).trans hq, sortIL_swp hj0 hj (by omega) ht (by rw [getL (by omega), getL (by omega)]; exact hlt)⟩, by show j - 1 < j; omega⟩
            · exact swpL_row hj0 (by omega)
          · refine drawP.mk 17 (Z (Z (Z (Z ?_))))
            apply exP.mk
            exact rfl
            apply exP.mk
            exact rfl
            apply exP.mk
            exact rfl
            apply exP.mk
            exact rfl
            refine tY oky ?_
            apply exP.mk
            exact rfl
            apply exP.mk
            exact rfl
            apply exP.mk
            exact rfl
            apply exP.mk
            iterate 2 refine Z ?_
            refine jkm (by omega) ?_
            exact rfl
            apply exP.mk
            refine gm (by omega) ?_
            exact rfl
            apply exP.mk
            exact rfl
            apply exP.mk
            exact rfl
            apply exP.mk
            refine nw (by omega) (by omega) ?_
            exact rfl
            apply exP.mk
            iterate 2 refine Z ?_
            refine jmm (by omega) (by omega) ?_
            exact rfl
            apply exP.mk
            refine gm (by omega) ?_
            exact rfl
            apply exP.mk
            refine callP.mk _ _ _ (ranks1_c _ _ (by first | omega | assumption | (simp; omega) | (simp; done) | exact trivial | exact he _ (List.getElem_mem _) | exact hY _ (List.getElem_mem _)) (by first | omega | assumption | (simp; omega) | (simp; done) | exact trivial | exact he _ (List.getElem_mem _) | exact hY _ (List.getElem_mem _))) trivial nofun trivial ?_
            exact rfl
            apply exP.mk
            exact rfl
            refine tN okn ?_; refine nw (by omega) (by omega) ?_; rotate_left; refine hR ((i + 1, Y)) _ _ ?_ ?_; rotate_left; refine weak.mk [] [0] rfl rfl ?_ ?_
            repeat' first | exact trivial | exact rfl | exact Iff.rfl | assumption | exact pureI | exact (show _ = _ by omega) | exact (show _ ≤ _ by omega) | exact (show _ < _ by omega) | exact (show ¬ _ by omega) | refine And.intro ?_ ?_
            rotate_right; refine ⟨⟨by omega, hq, .inl (by omega), sortIL_end ht (.inr (by rw [getL (by omega), getL (by omega), cmpL_anti2]; omega))⟩, by show l.length - (i + 1) < l.length - i; omega⟩
        · refine drawP.mk 17 (Z (Z (Z (Z ?_))))
          apply exP.mk
          exact rfl
          apply exP.mk
          exact rfl
          apply exP.mk
          exact rfl
          apply exP.mk
          exact rfl
          refine tN okn ?_; refine nw (by omega) (by omega) ?_; rotate_left; refine hR ((i + 1, Y)) _ _ ?_ ?_; rotate_left; refine weak.mk [] [0] rfl rfl ?_ ?_
          repeat' first | exact trivial | exact rfl | exact Iff.rfl | assumption | exact pureI | exact (show _ = _ by omega) | exact (show _ ≤ _ by omega) | exact (show _ < _ by omega) | exact (show ¬ _ by omega) | refine And.intro ?_ ?_
          rotate_right; refine ⟨⟨by omega, hq, .inl (by omega), sortIL_end ht (.inl (by omega))⟩, by show l.length - (i + 1) < l.length - i; omega⟩
    · refine tN okn ?_
      rotate_left; refine doneE.mk (X) ?_ ?_
      rotate_left
      focus
        refine doneV.mk [] [0] rfl rfl ?_ ?_ ?_
        repeat' first | exact trivial | exact rfl | exact Iff.rfl | assumption | exact pureI | exact (show _ = _ by omega) | exact (show _ ≤ _ by omega) | exact (show _ < _ by omega) | exact (show ¬ _ by omega) | refine And.intro ?_ ?_
      rotate_right; refine ⟨hp, fun p q h1 h2 => hs p q h1 (by omega)⟩
theorem pdqsortF_c (l : List (List Int)) (hl : l.length ≤ 12) (he : ∀ x ∈ l, x.length ≤ 1099511627776) (n m : Int) (hn : n = l.length) : CE 120 [.loc 0, i64 0, i64 n, i64 m, .fn (.func 85) [] []] [rowI l] (fun M : List (List Int) => M.Perm l ∧ sortUL M M.length) (fun _ => .tuple []) (fun M => [rowI M]) true := by
  subst hn
  refine mkE false false Tryz.func120 rfl ?_; refine And.intro nofun ?_; rotate_left; refine loop_up (β := Nat) (fun k => [(1, i64 0), (2, i64 l.length), (3, i64 m), (10, .tt), (11, .tt)]) (fun k => []) [] (fun k => True) (fun k => k) (0) ?_ ?_ ?_
  · trivial
  · refine weak.mk [] [0] rfl rfl ?_ ?_
    repeat' first | exact trivial | exact rfl | exact Iff.rfl | assumption | exact pureI | exact (show _ = _ by omega) | exact (show _ ≤ _ by omega) | exact (show _ < _ by omega) | exact (show ¬ _ by omega) | refine And.intro ?_ ?_
  · rintro k _ R hR
    refine nw (by omega) (by omega) ?_; refine tY oky ?_; refine callW.mkE [] [0] 1 _ _ _ _ (insertionSortF_c _ (by first | omega | assumption | (simp; omega) | (simp; done) | exact trivial | exact he _ (List.getElem_mem _)) (by first | omega | assumption | (simp; omega) | (simp; done) | exact trivial | exact he _ (List.getElem_mem _)) _ (by first | omega | assumption | (simp; omega) | (simp; done) | exact trivial | exact he _ (List.getElem_mem _))) rfl rfl okk (fun _ => ⟨rfl, rfl⟩) (fun _ _ => ?_); rotate_left
    rename_i M hM
    refine doneE.mk (M) ?_ ?_; rotate_left
    focus
      refine doneV.mk [] [0] rfl rfl ?_ ?_ ?_
      repeat' first | exact trivial | exact rfl | exact Iff.rfl | assumption | exact pureI | exact (show _ = _ by omega) | exact (show _ ≤ _ by omega) | exact (show _ < _ by omega) | exact (show ¬ _ by omega) | refine And.intro ?_ ?_
    rotate_right
    exact hM
theorem SortF_c (l : List (List Int)) (hl : l.length ≤ 12) (he : ∀ x ∈ l, x.length ≤ 1099511627776) : CE 111 [.loc 0, .fn (.func 85) [] []] [rowI l] (fun M : List (List Int) => M.Perm l ∧ sortUL M M.length) (fun _ => .tuple []) (fun M => [rowI M]) true := by
  refine mkE false false Tryz.func111 rfl ?_; refine And.intro nofun ?_; refine lm ?_; refine nr ?_; rotate_left
  rw [wrap_u64 (z := (l.length : Int)) (by omega) (by omega)]
  refine callW.mkE [] [] 1 _ _ _ _ (Len_c _ (by first | omega | assumption | (simp; omega) | (simp; done) | exact trivial | exact he _ (List.getElem_mem _)) (by first | omega | assumption | (simp; omega) | (simp; done) | exact trivial | exact he _ (List.getElem_mem _))) rfl rfl trivial nofun (fun _ _ => ?_); refine callW.mkE [] [0] 1 _ _ _ _ (pdqsortF_c _ (by first | omega | assumption | (simp; omega) | (simp; done) | exact trivial | exact he _ (List.getElem_mem _)) (by first | omega | assumption | (simp; omega) | (simp; done) | exact trivial | exact he _ (List.getElem_mem _)) _ _ (by first | omega | assumption | (simp; omega) | (simp; done) | exact trivial | exact he _ (List.getElem_mem _))) rfl rfl okk (fun _ => ⟨rfl, rfl⟩) (fun _ _ => ?_); rotate_left
  rename_i e h M hM
  refine doneE.mk (M) ?_ ?_; rotate_left
  focus
    refine doneV.mk [] [0] rfl rfl ?_ ?_ ?_
    repeat' first | exact trivial | exact rfl | exact Iff.rfl | assumption | exact pureI | exact (show _ = _ by omega) | exact (show _ ≤ _ by omega) | exact (show _ < _ by omega) | exact (show ¬ _ by omega) | refine And.intro ?_ ?_
  rotate_right
  exact hM
end Sx
