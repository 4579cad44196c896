/- Contracts: lists of lists that are searched. -/
import Derived.Test.YteaabofmnlbmkaaCRk
set_option linter.all false
namespace Sx
open Go Go.Proofs
set_option maxRecDepth 100000
set_option maxHeartbeats 8000000
set_option linter.unusedSimpArgs false
set_option linter.unusedSectionVars false
variable [Glb]
theorem Equal_c (a b : List Int) (hl : a.length ≤ 1099511627776) (hb : b.length ≤ 1099511627776) : C 96 [ints a, ints b] [] (pr (a = b)) [] false := by
  refine mkC false false Try.func96 rfl ?_
  refine And.intro nofun ?_
  iterate 2 refine lm ?_
  refine twoN (fun _ => ?_) (fun _ => ?_)
  rotate_left
  refine lm ?_
  rotate_left
  · rename_i h1
    refine dv0 rfl ?_
    exact fun h => h1 (by rw [h])
  · rename_i h1
    refine loop_up (β := Nat) (fun k => [(13, i64 k), (4, .unk)]) (fun k => []) [] (fun k => k ≤ a.length ∧ a.take k = b.take k) (fun k => a.length - k) (0) ?_ ?_ ?_
    · simp
    · refine weak.mk [] [] rfl rfl ?_ ?_
      repeat' first | exact trivial | exact rfl | exact Iff.rfl | assumption | refine And.intro ?_ ?_
    · rintro k ⟨hk, hi⟩ R hR
      by_cases hkl : k < a.length
      · refine tY (by first | omega | assumption | exact rfl | exact Iff.rfl | exact ⟨rfl, rfl⟩ | exact ⟨rfl, rfl, rfl⟩) ?_
        refine drawP.mkS (Z (Z ?_))
        refine Z ?_
        apply exP.mk
        exact rfl
        apply exP.mk
        exact rfl
        apply exP.mk
        iterate 2 refine Z ?_
        refine jkm (by omega) ?_
        exact rfl
        apply exP.mk
        refine gm (by omega) ?_
        exact rfl
        apply exP.mk
        exact rfl
        apply exP.mk
        exact rfl
        apply exP.mk
        iterate 2 refine Z ?_
        refine jkm (by omega) ?_
        exact rfl
        apply exP.mk
        refine gm (by omega) ?_
        exact rfl
        apply exP.mk
        exact rfl
        refine twoN (fun _ => ?_) (fun _ => ?_)
        rotate_left
        refine nw (by omega) (by omega) ?_
        rotate_left
        · rename_i h3
          refine dv0 rfl ?_
          exact fun h => h3 (by subst h; rfl)
        · rename_i h3
          refine hR (k + 1) _ _ ?_ (weak.mk [] [] rfl rfl ?_ ?_)
          repeat' first | exact trivial | exact rfl | exact Iff.rfl | assumption | refine And.intro ?_ ?_
          exact ⟨⟨by omega, (eq_take (by omega) (by omega)).2 ⟨hi, h3⟩⟩, by omega⟩
      · refine tN (by first | omega | assumption | exact fun h => h (by assumption) | exact fun h => h rfl | exact fun h => h Iff.rfl | exact fun h => h ⟨rfl, rfl⟩ | exact fun h => h ⟨rfl, rfl, rfl⟩) ?_
        rotate_left
        rw [List.take_of_length_le (by omega), List.take_of_length_le (by omega)] at hi
        refine dv0 rfl ?_
        exact hi
theorem ranks2_c (a b : List Int) (ha : a.length ≤ 1099511627776) (hb : b.length ≤ 1099511627776) : C 95 [ints a, ints b] [] (pr (a = b)) [] false := by
  refine mkC false false Try.func95 rfl ?_
  refine And.intro nofun ?_
  refine callW.mk [] 0 _ _ _ (Equal_c _ _ (by first | omega | assumption | (simp; omega) | (simp; done) | exact trivial) (by first | omega | assumption | (simp; omega) | (simp; done) | exact trivial)) rfl rfl trivial nofun ?_
  rotate_left
  refine doneV.mk [] [] rfl rfl ?_ ?_ ?_
  repeat' first | exact trivial | exact rfl | exact Iff.rfl | assumption | exact pureI | exact (show _ = _ by omega) | exact (show _ ≤ _ by omega) | exact (show _ < _ by omega) | exact (show ¬ _ by omega) | refine And.intro ?_ ?_
theorem l1Same_c (a b : List Int) (hl : a.length ≤ 1099511627776) (hb : b.length ≤ 1099511627776) : C 71 [ints a, ints b] [] (pr (a = b)) [] false := by
  refine mkC false false Try.func71 rfl ?_
  refine And.intro nofun ?_
  iterate 2 refine lm ?_
  refine twoN (fun _ => ?_) (fun _ => ?_)
  iterate 2 rotate_left
  · rename_i h1
    refine dv0 rfl ?_
    exact fun h => h1 (by rw [h])
  · rename_i h1
    refine loop_up (β := Nat) (fun k => [(5, i64 k), (4, .unk)]) (fun k => []) [] (fun k => k ≤ a.length ∧ a.take k = b.take k) (fun k => a.length - k) (0) ?_ ?_ ?_
    · simp
    · refine weak.mk [] [] rfl rfl ?_ ?_
      repeat' first | exact trivial | exact rfl | exact Iff.rfl | assumption | refine And.intro ?_ ?_
    · rintro k ⟨hk, hi⟩ R hR
      by_cases hkl : k < a.length
      · refine lm ?_
        refine tY (by first | omega | assumption | exact rfl | exact Iff.rfl | exact ⟨rfl, rfl⟩ | exact ⟨rfl, rfl, rfl⟩) ?_
        refine drawP.mkS (Z (Z ?_))
        refine Z ?_
        apply exP.mk
        exact rfl
        apply exP.mk
        exact rfl
        apply exP.mk
        iterate 2 refine Z ?_
        refine jkm (by omega) ?_
        exact rfl
        apply exP.mk
        refine gm (by omega) ?_
        exact rfl
        apply exP.mk
        exact rfl
        apply exP.mk
        exact rfl
        apply exP.mk
        iterate 2 refine Z ?_
        refine jkm (by omega) ?_
        exact rfl
        apply exP.mk
        refine gm (by omega) ?_
        exact rfl
        apply exP.mk
        exact rfl
        refine twoN (fun _ => ?_) (fun _ => ?_)
        rotate_left
        refine nw (by omega) (by omega) ?_
        rotate_left
        · rename_i h3
          refine dv0 rfl ?_
          exact fun h => h3 (by subst h; rfl)
        · rename_i h3
          refine hR (k + 1) _ _ ?_ (weak.mk [] [] rfl rfl ?_ ?_)
          repeat' first | exact trivial | exact rfl | exact Iff.rfl | assumption | refine And.intro ?_ ?_
          exact ⟨⟨by omega, (eq_take (by omega) (by omega)).2 ⟨hi, h3⟩⟩, by omega⟩
      · refine lm ?_
        refine tN (by first | omega | assumption | exact fun h => h (by assumption) | exact fun h => h rfl | exact fun h => h Iff.rfl | exact fun h => h ⟨rfl, rfl⟩ | exact fun h => h ⟨rfl, rfl, rfl⟩) ?_
        rotate_left
        rw [List.take_of_length_le (by omega), List.take_of_length_le (by omega)] at hi
        refine dv0 rfl ?_
        exact hi
theorem ranks3_c (x v : List Int) (hx : x.length ≤ 1099511627776) (hv : v.length ≤ 1099511627776) : C 98 [ints x, .prow 0 0 0] [.row .var 1 [ints v]] (pr (v = x)) [.row .var 1 [ints v]] true := by
  refine mkC false false Try.func98 rfl ?_
  refine And.intro nofun ?_
  refine callW.mk [] 1 _ _ _ (Equal_c _ _ (by first | omega | assumption | (simp; omega) | (simp; done) | exact trivial) (by first | omega | assumption | (simp; omega) | (simp; done) | exact trivial)) rfl rfl trivial nofun ?_
  rotate_left
  refine doneV.mk [] [0] rfl rfl ?_ ?_ ?_
  repeat' first | exact trivial | exact rfl | exact Iff.rfl | assumption | exact pureI | exact (show _ = _ by omega) | exact (show _ ≤ _ by omega) | exact (show _ < _ by omega) | exact (show ¬ _ by omega) | refine And.intro ?_ ?_
theorem IndexFuncV_c (L : List (List Int)) (v : List Int) (hL : L.length ≤ 1099511627776) (he : ∀ x ∈ L, x.length ≤ 1099511627776) (hv : v.length ≤ 1099511627776) : C 97 [.loc 1, .fn (.func 98) [] [.prow 0 0 0]] [.row .var 1 [ints v], rowI L] (i64 (fIx (fun x => v = x) L)) [.row .var 1 [ints v], rowI L] true := by
  refine mkC false false Try.func97 rfl ?_
  refine And.intro nofun ?_
  refine lm ?_
  rotate_left
  refine loop_up (β := Nat) (fun k => [(8, i64 k), (4, .unk)]) (fun k => []) [] (fun k => k ≤ L.length ∧ ∀ l ∈ L.take k, ¬ v = l) (fun k => L.length - k) (0) ?_ ?_ ?_
  · simp
  · refine weak.mk [] [0, 1] rfl rfl ?_ ?_
    repeat' first | exact trivial | exact rfl | exact Iff.rfl | assumption | exact pureI | exact (show _ = _ by omega) | exact (show _ ≤ _ by omega) | exact (show _ < _ by omega) | exact (show ¬ _ by omega) | refine And.intro ?_ ?_
  · rintro k ⟨hk, hi⟩ R hR
    by_cases hkl : k < L.length
    · have e1 := he _ (List.getElem_mem hkl)
      refine tY (by first | omega | assumption | exact rfl | exact Iff.rfl | exact ⟨rfl, rfl⟩ | exact ⟨rfl, rfl, rfl⟩) ?_
      iterate 2 refine Z ?_
      refine jkm (by omega) ?_
      refine gm (by omega) ?_
      refine callW.mk [0] 2 _ _ _ (ranks3_c _ _ (by first | omega | assumption | (simp; omega) | (simp; done) | exact trivial | exact he _ (List.getElem_mem _) | exact hi _ (List.getElem_mem _)) (by first | omega | assumption | (simp; omega) | (simp; done) | exact trivial | exact he _ (List.getElem_mem _) | exact hi _ (List.getElem_mem _))) rfl rfl (by repeat' first | exact trivial | assumption | exact knownSS | exact knownApp knownSS knownNil | refine And.intro ?_ ?_) (fun _ => ⟨rfl, rfl⟩) ?_
      refine twoP.mk (fun _ => ?_) (fun _ => ?_)
      rotate_left
      refine nw (by omega) (by omega) ?_
      rotate_left
      · rename_i h3
        rw [fIx_here (p := fun x => v = x) (by omega) hi h3]
        refine doneV.mk [] [0, 1] rfl rfl ?_ ?_ ?_
        repeat' first | exact trivial | exact rfl | exact Iff.rfl | assumption | exact pureI | exact (show _ = _ by omega) | exact (show _ ≤ _ by omega) | exact (show _ < _ by omega) | exact (show ¬ _ by omega) | refine And.intro ?_ ?_
      · rename_i h3
        refine hR (k + 1) _ _ ?_ ?_
        rotate_left
        refine weak.mk [] [0, 1] rfl rfl ?_ ?_
        repeat' first | exact trivial | exact rfl | exact Iff.rfl | assumption | exact pureI | exact (show _ = _ by omega) | exact (show _ ≤ _ by omega) | exact (show _ < _ by omega) | exact (show ¬ _ by omega) | refine And.intro ?_ ?_
        rotate_right
        exact ⟨⟨by omega, (all_take (P := fun x => ¬ v = x) (by omega)).2 ⟨hi, h3⟩⟩, by omega⟩
    · rw [List.take_of_length_le (by omega)] at hi
      rw [fIx_no (p := fun x => v = x) hi]
      refine tN (by first | omega | assumption | exact fun h => h (by assumption) | exact fun h => h rfl | exact fun h => h Iff.rfl | exact fun h => h ⟨rfl, rfl⟩ | exact fun h => h ⟨rfl, rfl, rfl⟩) ?_
      rotate_left
      refine doneV.mk [] [0, 1] rfl rfl ?_ ?_ ?_
      repeat' first | exact trivial | exact rfl | exact Iff.rfl | assumption | exact pureI | exact (show _ = _ by omega) | exact (show _ ≤ _ by omega) | exact (show _ < _ by omega) | exact (show ¬ _ by omega) | refine And.intro ?_ ?_
end Sx
