/- Contracts: axes of the reference, rigid crowds, views and gaps told. -/
import Derived.Test.YteaabofmnlbmkaaGreatSyC
import Derived.Test.YteaabofmnlbmkaaGreatCTb
import Derived.Test.YteaabofmnlbmkaaGreatCRj
set_option linter.all false
namespace Sx
open Go Go.Proofs
set_option maxRecDepth 100000
set_option maxHeartbeats 8000000
set_option linter.unusedSimpArgs false
set_option linter.unusedSectionVars false
variable [Glb]
theorem l10MirrorX_c (n x : Int) (l : List Int) (hc : crowd n l) (hx : 0 ≤ x ∧ x < n) : C 99 [.agg [i64 n, ints l], i64 x] [] (.agg [i64 n, .loc 0]) [row (axm n x l)] false := by
  have hn := hc.1.1
  have hl := hc.1.2
  refine mkC false false Tryz.func99 rfl ?_; refine And.intro nofun ?_; iterate 17 refine Z ?_
  rotate_left; refine loop_up (β := Nat) (fun k => [(6, i64 k)]) (fun k => [(2, .row .var 2 [.agg [i64 n, .loc 3]]), (3, row (putK n (axF n x) l k))]) [1] (fun k => k ≤ l.length) (fun k => l.length - k) (0) ?_ ?_ ?_
  · omega
  · refine weak.mk [1] [0, 1, 2, 3] rfl rfl ?_ ?_
    repeat' first | exact trivial | exact rfl | exact Iff.rfl | assumption | exact pureI | exact (show _ = _ by omega) | exact (show _ ≤ _ by omega) | exact (show _ < _ by omega) | exact (show ¬ _ by omega) | refine And.intro ?_ ?_
  · rintro k hk R hR
    rw [putK_eq]
    by_cases hkl : k < l.length
    · obtain ⟨hy, hnew⟩ := img_new hc (axF_ok hc) hkl
      have hle := srt_le n ((l.take k).map (axF n x))
      have hkl2 := hc.2.1 _ (List.getElem_mem hkl)
      refine Z ?_; refine lm ?_; refine tY oky ?_; refine drawP.mkS (Z (Z ?_)); refine Z ?_
      apply exP.mk
      refine Z ?_
      exact rfl
      apply exP.mk
      exact rfl
      apply exP.mk
      exact rfl
      apply exP.mk
      refine Z ?_
      exact rfl
      apply exP.mk
      exact rfl
      apply exP.mk
      exact rfl
      apply exP.mk
      iterate 2 refine Z ?_
      refine jkm (by omega) ?_
      exact rfl
      apply exP.mk
      refine gm (by omega) ?_
      exact rfl
      apply exP.mk
      refine nw (by omega) (by omega) ?_
      exact rfl
      apply exP.mk
      refine Z ?_
      exact rfl
      apply exP.mk
      exact rfl
      apply exP.mk
      refine nw (by omega) (by omega) ?_
      exact rfl
      apply exP.mk
      refine Z ?_
      exact rfl
      apply exP.mk
      exact rfl
      apply exP.mk
      refine And.intro (by omega) ?_; refine ntm (by omega) ?_
      exact rfl
      refine callW.mk [] 4 _ _ _ ((putNew_c n ((l.take k).map (axF n x)) (axF n x l[k]) hy (by omega) hnew)) rfl rfl okk nofun ?_; refine Z ?_
      apply exP.mk
      refine Z ?_
      exact rfl
      iterate 5 refine Z ?_
      refine nw (by omega) (by omega) ?_; rotate_left; refine hR (k + 1) _ _ ?_ ?_; rotate_left; refine weak.mk [] [0, 1, 2, 4] rfl rfl ?_ ?_
      repeat' first | exact trivial | exact rfl | exact Iff.rfl | assumption | exact pureI | exact (show _ = _ by omega) | exact (show _ ≤ _ by omega) | exact (show _ < _ by omega) | exact (show ¬ _ by omega) | refine And.intro ?_ ?_
      rotate_right
      · exact ⟨by omega, by omega⟩
      · exact map_congr (img_next hkl)
    · refine Z ?_
      refine lm ?_; refine tN okn ?_; iterate 4 refine Z ?_
      rotate_left; refine doneV.mk [] [3] rfl rfl ?_ ?_ ?_
      repeat' first | exact trivial | exact rfl | exact Iff.rfl | assumption | exact pureI | exact (show _ = _ by omega) | exact (show _ ≤ _ by omega) | exact (show _ < _ by omega) | exact (show ¬ _ by omega) | refine And.intro ?_ ?_
      exact map_congr (by rw [List.take_of_length_le (by omega)]; rfl)
theorem l10Axes_c (n : Int) (l : List Int) (hc : crowd n l) : C 53 [.agg [i64 n, ints l]] [] (.loc 0) [row (axL n l)] false := by
  have hn := hc.1.1
  have hl := hc.1.2
  refine mkC false false Tryz.func53 rfl ?_; refine And.intro nofun ?_; iterate 3 refine Z ?_
  rotate_left; refine loop_up (β := Nat) (fun k => [(3, .loc 1), (4, i64 k)]) (fun k => [(1, row (axK n l k))]) [1] (fun k => (k : Int) ≤ n) (fun k => n.toNat - k) (0) ?_ ?_ ?_
  · show (0 : Int) ≤ n; omega
  · refine weak.mk [1] [0, 1] rfl rfl ?_ ?_
    repeat' first | exact trivial | exact rfl | exact Iff.rfl | assumption | exact pureI | exact (show _ = _ by omega) | exact (show _ ≤ _ by omega) | exact (show _ < _ by omega) | exact (show ¬ _ by omega) | refine And.intro ?_ ?_
  · rintro k hk R hR
    have hal := (axm_crowd (x := k) hc).2
    have hml := axK_le n l k
    by_cases hkn : (k : Int) < n
    · have hmx := l10MirrorX_c n k l hc ⟨by omega, hkn⟩
      by_cases h : axm n k l = l
      · have hy := axK_yes h
        refine Z ?_; refine tY oky ?_; refine drawP.mkS (Z (Z ?_)); refine Z ?_
        apply exP.mk
        exact rfl
        apply exP.mk
        exact rfl
        apply exP.mk
        refine Z ?_
        exact rfl
        apply exP.mk
        exact rfl
        refine callW.mk [] 2 _ _ _ (hmx) rfl rfl okk nofun ?_; refine Z ?_
        apply exP.mk
        exact rfl
        refine And.intro ?_ ?_; refine Z ?_
        exact rfl
        refine Z ?_; refine callW.mk [] 3 _ _ _ (l1Same_c _ _ oka oka) rfl rfl trivial nofun ?_; refine Z ?_; refine tY oky ?_; iterate 10 refine Z ?_
        refine lem1 (by omega) ?_; refine ea ?_; refine nw (by omega) (by omega) ?_; rotate_left; refine hR (k + 1) _ _ ?_ ?_; rotate_left; refine weak.mk [] [0, 4] rfl rfl ?_ ?_
        repeat' first | exact trivial | exact rfl | exact Iff.rfl | assumption | exact pureI | exact (show _ = _ by omega) | exact (show _ ≤ _ by omega) | exact (show _ < _ by omega) | exact (show ¬ _ by omega) | refine And.intro ?_ ?_
        rotate_right
        · exact ⟨by show ((k + 1 : Nat) : Int) ≤ n; omega, by omega⟩
        · rw [hy]
      · have hy := axK_no h
        refine Z ?_; refine tY oky ?_; refine drawP.mkS (Z (Z ?_)); refine Z ?_
        apply exP.mk
        exact rfl
        apply exP.mk
        exact rfl
        apply exP.mk
        refine Z ?_
        exact rfl
        apply exP.mk
        exact rfl
        refine callW.mk [] 2 _ _ _ (hmx) rfl rfl okk nofun ?_; refine Z ?_
        apply exP.mk
        exact rfl
        refine And.intro ?_ ?_; refine Z ?_
        exact rfl
        refine Z ?_; refine callW.mk [] 3 _ _ _ (l1Same_c _ _ oka oka) rfl rfl trivial nofun ?_; refine Z ?_; refine tN okn ?_; refine nw (by omega) (by omega) ?_; rotate_left; refine hR (k + 1) _ _ ?_ ?_; rotate_left; refine weak.mk [] [0, 1] rfl rfl ?_ ?_
        repeat' first | exact trivial | exact rfl | exact Iff.rfl | assumption | exact pureI | exact (show _ = _ by omega) | exact (show _ ≤ _ by omega) | exact (show _ < _ by omega) | exact (show ¬ _ by omega) | refine And.intro ?_ ?_
        rotate_right
        · exact ⟨by show ((k + 1 : Nat) : Int) ≤ n; omega, by omega⟩
        · rw [hy]
    · have hke : n.toNat = k := by omega
      have hax : axL n l = axK n l k := by unfold axL; rw [hke]
      rw [hax]
      refine Z ?_; refine tN okn ?_; rotate_left; refine doneV.mk [] [1] rfl rfl ?_ ?_ ?_
      repeat' first | exact trivial | exact rfl | exact Iff.rfl | assumption | exact pureI | exact (show _ = _ by omega) | exact (show _ ≤ _ by omega) | exact (show _ < _ by omega) | exact (show ¬ _ by omega) | refine And.intro ?_ ?_
def rigid (n : Int) (l : List Int) : Prop := perI n l = n ∧ axL n l = []
open Classical in
noncomputable instance (n : Int) (l : List Int) : Decidable (rigid n l) := propDecidable _
theorem axL_le (n : Int) (l : List Int) : (axL n l).length ≤ n.toNat := axK_le n l _
theorem IsRigid_c (n : Int) (l : List Int) (hl : l.length ≤ 1099511627776) : C 15 [.agg [i64 n, ints l]] [] (.tuple [pr (crowd n l ∧ rigid n l), pr (crowd n l)]) [] false := by
  refine mkC false false Tryz.func15 rfl ?_; refine And.intro nofun ?_
  by_cases h : crowd n l
  · have hn := h.1.1
    have hal := axL_le n l
    by_cases hp : perI n l = n
    · refine Z ?_
      refine callW.mk [] 1 _ _ _ (IsCrowd_c _ _ oka) rfl rfl trivial nofun ?_; refine tN okn ?_; refine drawP.mk 13 (Z (Z (Z (Z ?_))))
      apply exP.mk
      exact rfl
      apply exP.mk
      refine callP.mk _ _ _ (period_c _ _ oka) trivial nofun trivial ?_
      exact rfl
      apply exP.mk
      refine Z ?_
      exact rfl
      apply exP.mk
      exact rfl
      apply exP.mk
      exact rfl
      apply exP.mk
      exact rfl
      refine tY oky ?_
      apply exP.mk
      exact rfl
      apply exP.mk
      refine callP.mk _ _ _ (axes_c _ _ oka) trivial nofun trivial ?_
      exact rfl
      apply exP.mk
      refine lm ?_
      exact rfl
      apply exP.mk
      exact rfl
      apply exP.mk
      exact rfl
      apply exP.mk
      exact rfl
      rotate_left; refine doneV.mk [] [] rfl rfl ?_ ?_ ?_
      repeat' first | exact trivial | exact rfl | exact Iff.rfl | assumption | exact pureI | exact (show _ = _ by omega) | exact (show _ ≤ _ by omega) | exact (show _ < _ by omega) | exact (show ¬ _ by omega) | refine And.intro ?_ ?_
      all_goals first | exact Iff.intro (fun x => ⟨h, hp, List.eq_nil_of_length_eq_zero (by omega)⟩) (fun x => by rw [x.2.2]; rfl) | exact h
    · refine Z ?_
      refine callW.mk [] 1 _ _ _ (IsCrowd_c _ _ oka) rfl rfl trivial nofun ?_; refine tN okn ?_; refine drawP.mk 13 (Z (Z (Z (Z ?_))))
      apply exP.mk
      exact rfl
      apply exP.mk
      refine callP.mk _ _ _ (period_c _ _ oka) trivial nofun trivial ?_
      exact rfl
      apply exP.mk
      refine Z ?_
      exact rfl
      apply exP.mk
      exact rfl
      apply exP.mk
      exact rfl
      apply exP.mk
      exact rfl
      refine tN okn ?_
      apply exP.mk
      exact rfl
      apply exP.mk
      exact rfl
      rotate_left; refine doneV.mk [] [] rfl rfl ?_ ?_ ?_
      repeat' first | exact trivial | exact rfl | exact Iff.rfl | assumption | exact pureI | exact (show _ = _ by omega) | exact (show _ ≤ _ by omega) | exact (show _ < _ by omega) | exact (show ¬ _ by omega) | refine And.intro ?_ ?_
      all_goals first | exact fun x => hp x.2.1 | exact h
  · refine Z ?_
    refine callW.mk [] 1 _ _ _ (IsCrowd_c _ _ oka) rfl rfl trivial nofun ?_; refine tY oky ?_; rotate_left; refine doneV.mk [] [] rfl rfl ?_ ?_ ?_
    repeat' first | exact trivial | exact rfl | exact Iff.rfl | assumption | exact pureI | exact (show _ = _ by omega) | exact (show _ ≤ _ by omega) | exact (show _ < _ by omega) | exact (show ¬ _ by omega) | refine And.intro ?_ ?_
    all_goals (first | exact fun x => h x.1 | exact h)
theorem sIsRigid_c (n : Int) (l : List Int) (hl : l.length ≤ 1099511627776) : C 16 [.agg [i64 n, ints l]] [] (.tuple [pr (crowd n l ∧ rigid n l), pr (crowd n l)]) [] false := by
  refine mkC false false Tryz.func16 rfl ?_; refine And.intro nofun ?_
  by_cases h : crowd n l
  · have hn := h.1.1
    have hal := axL_le n l
    by_cases hp : perI n l = n
    · refine Z ?_
      refine callW.mk [] 1 _ _ _ (l10Crowd_c _ _ oka) rfl rfl trivial nofun ?_; refine tN okn ?_; refine drawP.mk 13 (Z (Z (Z (Z ?_))))
      apply exP.mk
      exact rfl
      apply exP.mk
      refine callP.mk _ _ _ (l10Period_c _ _ oka) trivial nofun trivial ?_
      exact rfl
      apply exP.mk
      refine Z ?_
      exact rfl
      apply exP.mk
      exact rfl
      apply exP.mk
      exact rfl
      apply exP.mk
      exact rfl
      refine tY oky ?_
      apply exP.mk
      exact rfl
      apply exP.mk
      refine callP.mk _ _ _ (l10Axes_c _ _ oka) trivial nofun trivial ?_
      exact rfl
      apply exP.mk
      refine lm ?_
      exact rfl
      apply exP.mk
      exact rfl
      apply exP.mk
      exact rfl
      apply exP.mk
      exact rfl
      rotate_left; refine doneV.mk [] [] rfl rfl ?_ ?_ ?_
      repeat' first | exact trivial | exact rfl | exact Iff.rfl | assumption | exact pureI | exact (show _ = _ by omega) | exact (show _ ≤ _ by omega) | exact (show _ < _ by omega) | exact (show ¬ _ by omega) | refine And.intro ?_ ?_
      all_goals first | exact Iff.intro (fun x => ⟨h, hp, List.eq_nil_of_length_eq_zero (by omega)⟩) (fun x => by rw [x.2.2]; rfl) | exact h
    · refine Z ?_
      refine callW.mk [] 1 _ _ _ (l10Crowd_c _ _ oka) rfl rfl trivial nofun ?_; refine tN okn ?_; refine drawP.mk 13 (Z (Z (Z (Z ?_))))
      apply exP.mk
      exact rfl
      apply exP.mk
      refine callP.mk _ _ _ (l10Period_c _ _ oka) trivial nofun trivial ?_
      exact rfl
      apply exP.mk
      refine Z ?_
      exact rfl
      apply exP.mk
      exact rfl
      apply exP.mk
      exact rfl
      apply exP.mk
      exact rfl
      refine tN okn ?_
      apply exP.mk
      exact rfl
      apply exP.mk
      exact rfl
      rotate_left; refine doneV.mk [] [] rfl rfl ?_ ?_ ?_
      repeat' first | exact trivial | exact rfl | exact Iff.rfl | assumption | exact pureI | exact (show _ = _ by omega) | exact (show _ ≤ _ by omega) | exact (show _ < _ by omega) | exact (show ¬ _ by omega) | refine And.intro ?_ ?_
      all_goals first | exact fun x => hp x.2.1 | exact h
  · refine Z ?_
    refine callW.mk [] 1 _ _ _ (l10Crowd_c _ _ oka) rfl rfl trivial nofun ?_; refine tY oky ?_; rotate_left; refine doneV.mk [] [] rfl rfl ?_ ?_ ?_
    repeat' first | exact trivial | exact rfl | exact Iff.rfl | assumption | exact pureI | exact (show _ = _ by omega) | exact (show _ ≤ _ by omega) | exact (show _ < _ by omega) | exact (show ¬ _ by omega) | refine And.intro ?_ ?_
    all_goals (first | exact fun x => h x.1 | exact h)
end Sx
