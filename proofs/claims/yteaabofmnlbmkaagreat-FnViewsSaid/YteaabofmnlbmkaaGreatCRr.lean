/- Contracts: lists of lists in order, out of their values. -/
import Derived.Test.YteaabofmnlbmkaaGreatSyC
import Derived.Test.YteaabofmnlbmkaaGreatCRq
import Derived.Test.YteaabofmnlbmkaaGreatCRo
import Derived.Test.YteaabofmnlbmkaaGreatMxA
set_option linter.all false
namespace Sx
open Go Go.Proofs
set_option maxRecDepth 100000
set_option maxHeartbeats 8000000
set_option linter.unusedSimpArgs false
set_option linter.unusedSectionVars false
variable [Glb]
theorem ranks3p_c (x v : List Int) (hx : x.length ≤ 1099511627776) (hv : v.length ≤ 1099511627776) : C 93 [ints x, .pim 1 [ints v] 0 0] [] (pr (v = x)) [] false := by
  refine mkC false false Tryz.func93 rfl ?_; refine And.intro nofun ?_; refine getP.mk _ rfl ?_; refine callW.mk [] 0 _ _ _ (Equal_c _ _ oka oka) rfl rfl trivial nofun ?_; rotate_left; refine doneV.mk [] [] rfl rfl ?_ ?_ ?_
  repeat' first | exact trivial | exact rfl | exact Iff.rfl | assumption | exact pureI | exact (show _ = _ by omega) | exact (show _ ≤ _ by omega) | exact (show _ < _ by omega) | exact (show ¬ _ by omega) | refine And.intro ?_ ?_
theorem IndexFuncT_c (L : List (List Int)) (v : List Int) (hL : L.length ≤ 1099511627776) (he : ∀ x ∈ L, x.length ≤ 1099511627776) (hv : v.length ≤ 1099511627776) : C 92 [.sl 1 (L.map ints), .fn (.func 93) [] [.pim 1 [ints v] 0 0]] [] (i64 (fIx (fun x => v = x) L)) [] false := by
  refine mkC false false Tryz.func92 rfl ?_; refine And.intro nofun ?_; refine lm ?_; rotate_left; refine loop_up (β := Nat) (fun k => [(8, i64 k), (4, .unk)]) (fun k => []) [] (fun k => k ≤ L.length ∧ ∀ l ∈ L.take k, ¬ v = l) (fun k => L.length - k) (0) ?_ ?_ ?_
  · simp
  · refine weak.mk [] [] rfl rfl ?_ ?_
    repeat' first | exact trivial | exact rfl | exact Iff.rfl | assumption | exact pureI | exact (show _ = _ by omega) | exact (show _ ≤ _ by omega) | exact (show _ < _ by omega) | exact (show ¬ _ by omega) | refine And.intro ?_ ?_
  · rintro k ⟨hk, hi⟩ R hR
    by_cases hkl : k < L.length
    · have e1 := he _ (List.getElem_mem hkl)
      refine tY oky ?_; iterate 2 refine Z ?_
      refine jkm (by omega) ?_; refine gm (by omega) ?_; refine callW.mk [] 0 _ _ _ (ranks3p_c _ _ (by first | omega | assumption | (simp; omega) | (simp; done) | exact trivial | exact he _ (List.getElem_mem _) | exact hi _ (List.getElem_mem _)) (by first | omega | assumption | (simp; omega) | (simp; done) | exact trivial | exact he _ (List.getElem_mem _) | exact hi _ (List.getElem_mem _))) rfl rfl trivial nofun ?_; refine twoP.mk (fun _ => ?_) (fun _ => ?_); rotate_left; refine nw (by omega) (by omega) ?_; rotate_left
      · rename_i h3
        rw [fIx_here (p := fun x => v = x) (by omega) hi h3]
        refine doneV.mk [] [] rfl rfl ?_ ?_ ?_
        repeat' first | exact trivial | exact rfl | exact Iff.rfl | assumption | exact pureI | exact (show _ = _ by omega) | exact (show _ ≤ _ by omega) | exact (show _ < _ by omega) | exact (show ¬ _ by omega) | refine And.intro ?_ ?_
      · rename_i h3
        refine hR (k + 1) _ _ ?_ ?_; rotate_left; refine weak.mk [] [] rfl rfl ?_ ?_
        repeat' first | exact trivial | exact rfl | exact Iff.rfl | assumption | exact pureI | exact (show _ = _ by omega) | exact (show _ ≤ _ by omega) | exact (show _ < _ by omega) | exact (show ¬ _ by omega) | refine And.intro ?_ ?_
        rotate_right
        exact ⟨⟨by omega, (all_take (P := fun x => ¬ v = x) (by omega)).2 ⟨hi, h3⟩⟩, by omega⟩
    · rw [List.take_of_length_le (by omega)] at hi
      rw [fIx_no (p := fun x => v = x) hi]
      refine tN okn ?_; rotate_left; refine doneV.mk [] [] rfl rfl ?_ ?_ ?_
      repeat' first | exact trivial | exact rfl | exact Iff.rfl | assumption | exact pureI | exact (show _ = _ by omega) | exact (show _ ≤ _ by omega) | exact (show _ < _ by omega) | exact (show ¬ _ by omega) | refine And.intro ?_ ?_
theorem Values_c (L : List (List Int)) : C 88 [.sl 1 (L.map ints)] [] (.fn (.func 112) [] [.pim 1 [.sl 1 (L.map ints)] 0 0]) [] true := by
  refine mkC false true Tryz.func88 rfl ?_; refine And.intro (fun _ => rfl) ?_; refine Z ?_; rotate_left; refine doneV.fz [] [] rfl rfl rfl okk ?_ ?_ ?_
  repeat' first | exact trivial | exact rfl | exact Iff.rfl | assumption | exact pureI | exact (show _ = _ by omega) | exact (show _ ≤ _ by omega) | exact (show _ < _ by omega) | exact (show ¬ _ by omega) | refine And.intro ?_ ?_
theorem SortedFunc_c (L : List (List Int)) (h1 : 1 ≤ L.length) (h2 : L.length ≤ 12) (he : ∀ x ∈ L, x.length ≤ 1099511627776) : CE 87 [.fn (.func 112) [] [.pim 1 [.sl 1 (L.map ints)] 0 0], .fn (.func 85) [] []] [] (fun M : List (List Int) => M.Perm L ∧ sortUL M M.length) (fun _ => .loc 0) (fun M => [rowI M]) true := by
  refine mkE false false Tryz.func87 rfl ?_; refine And.intro nofun ?_; refine callW.mk [] 0 _ _ _ (Collect_c _ (by first | omega | assumption | (simp; omega) | (simp; done) | exact trivial | exact he _ (List.getElem_mem _)) (by first | omega | assumption | (simp; omega) | (simp; done) | exact trivial | exact he _ (List.getElem_mem _))) rfl rfl okk (fun _ => ⟨rfl, rfl⟩) ?_; refine callW.mkE [] [0] 1 _ _ _ _ (SortF_c _ (by first | omega | assumption | (simp; omega) | (simp; done) | exact trivial | exact he _ (List.getElem_mem _)) (by first | omega | assumption | (simp; omega) | (simp; done) | exact trivial | exact he _ (List.getElem_mem _))) rfl rfl okk (fun _ => ⟨rfl, rfl⟩) (fun _ _ => ?_); rotate_left
  rename_i M hM
  refine doneE.mk (M) ?_ ?_; rotate_left
  focus
    refine doneV.mk [] [0] rfl rfl ?_ ?_ ?_
    repeat' first | exact trivial | exact rfl | exact Iff.rfl | assumption | exact pureI | exact (show _ = _ by omega) | exact (show _ ≤ _ by omega) | exact (show _ < _ by omega) | exact (show ¬ _ by omega) | refine And.intro ?_ ?_
  rotate_right
  exact hM
end Sx
