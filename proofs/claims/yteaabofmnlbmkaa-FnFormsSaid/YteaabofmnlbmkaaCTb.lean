/- Contracts: what crowds become, told with validity. -/
import Derived.Test.YteaabofmnlbmkaaSyC
import Derived.Test.YteaabofmnlbmkaaCTa
set_option linter.all false
namespace Sx
open Go Go.Proofs
set_option maxRecDepth 100000
set_option maxHeartbeats 8000000
set_option linter.unusedSimpArgs false
set_option linter.unusedSectionVars false
variable [Glb]
noncomputable def poR (n : Int) (l : List Int) : Int := if crowd n l then perI n l else 0
theorem po_yes {n : Int} {l : List Int} (h : crowd n l) : poR n l = perI n l := if_pos h
theorem po_no {n : Int} {l : List Int} (h : ¬ crowd n l) : poR n l = 0 := if_neg h
noncomputable def aoR (n : Int) (l : List Int) : List Int := if crowd n l then axL n l else []
theorem ao_yes {n : Int} {l : List Int} (h : crowd n l) : aoR n l = axL n l := if_pos h
theorem ao_no {n : Int} {l : List Int} (h : ¬ crowd n l) : aoR n l = [] := if_neg h
noncomputable def tcN (n s : Int) (l : List Int) : Int := if crowd n l ∧ 0 ≤ s ∧ s ≤ n - 1 then n else 0
noncomputable def tcL (n s : Int) (l : List Int) : List Int := if crowd n l ∧ 0 ≤ s ∧ s ≤ n - 1 then trn n s l else []
theorem tc_yes {n s : Int} {l : List Int} (h : crowd n l ∧ 0 ≤ s ∧ s ≤ n - 1) : tcN n s l = n ∧ tcL n s l = trn n s l := ⟨if_pos h, if_pos h⟩
theorem tc_no {n s : Int} {l : List Int} (h : ¬ (crowd n l ∧ 0 ≤ s ∧ s ≤ n - 1)) : tcN n s l = 0 ∧ tcL n s l = [] := ⟨if_neg h, if_neg h⟩
noncomputable def mcN (n : Int) (l : List Int) : Int := if crowd n l then n else 0
noncomputable def mcL (n : Int) (l : List Int) : List Int := if crowd n l then mir n l else []
theorem mc_yes {n : Int} {l : List Int} (h : crowd n l) : mcN n l = n ∧ mcL n l = mir n l := ⟨if_pos h, if_pos h⟩
theorem mc_no {n : Int} {l : List Int} (h : ¬ crowd n l) : mcN n l = 0 ∧ mcL n l = [] := ⟨if_neg h, if_neg h⟩
theorem PeriodOf_c (n : Int) (l : List Int) (hl : l.length ≤ 1099511627776) : C 48 [.agg [i64 n, ints l]] [] (.tuple [i64 (poR n l), pr (crowd n l)]) [] false := by
  refine mkC false false Try.func48 rfl ?_; refine And.intro nofun ?_
  by_cases h : crowd n l
  · rw [po_yes h]
    refine Z ?_; refine callW.mk [] 1 _ _ _ (IsCrowd_c _ _ oka) rfl rfl trivial nofun ?_; refine tN okn ?_; refine callW.mk [] 1 _ _ _ (period_c _ _ oka) rfl rfl trivial nofun ?_; rotate_left; refine doneV.mk [] [] rfl rfl ?_ ?_ ?_
    repeat' first | exact trivial | exact rfl | exact Iff.rfl | assumption | exact pureI | exact (show _ = _ by omega) | exact (show _ ≤ _ by omega) | exact (show _ < _ by omega) | exact (show ¬ _ by omega) | refine And.intro ?_ ?_
    all_goals exact h
  · rw [po_no h]
    refine Z ?_; refine callW.mk [] 1 _ _ _ (IsCrowd_c _ _ oka) rfl rfl trivial nofun ?_; refine tY oky ?_; rotate_left; refine doneV.mk [] [] rfl rfl ?_ ?_ ?_
    repeat' first | exact trivial | exact rfl | exact Iff.rfl | assumption | exact pureI | exact (show _ = _ by omega) | exact (show _ ≤ _ by omega) | exact (show _ < _ by omega) | exact (show ¬ _ by omega) | refine And.intro ?_ ?_
    all_goals exact h
theorem AxesOf_c (n : Int) (l : List Int) (hl : l.length ≤ 1099511627776) : C 49 [.agg [i64 n, ints l]] [] (.tuple [.loc 0, pr (crowd n l)]) [row (aoR n l)] false := by
  refine mkC false false Try.func49 rfl ?_; refine And.intro nofun ?_
  by_cases h : crowd n l
  · rw [ao_yes h]
    refine Z ?_; refine callW.mk [] 1 _ _ _ (IsCrowd_c _ _ oka) rfl rfl trivial nofun ?_; refine tN okn ?_; refine callW.mk [] 1 _ _ _ (axes_c _ _ oka) rfl rfl trivial nofun ?_; rotate_left; refine doneV.mk [] [1] rfl rfl ?_ ?_ ?_
    repeat' first | exact trivial | exact rfl | exact Iff.rfl | assumption | exact pureI | exact (show _ = _ by omega) | exact (show _ ≤ _ by omega) | exact (show _ < _ by omega) | exact (show ¬ _ by omega) | refine And.intro ?_ ?_
    all_goals exact h
  · rw [ao_no h]
    refine Z ?_; refine callW.mk [] 1 _ _ _ (IsCrowd_c _ _ oka) rfl rfl trivial nofun ?_; refine tY oky ?_; rotate_left; refine doneV.mk [1] [1] rfl rfl ?_ ?_ ?_
    repeat' first | exact trivial | exact rfl | exact Iff.rfl | assumption | exact pureI | exact (show _ = _ by omega) | exact (show _ ≤ _ by omega) | exact (show _ < _ by omega) | exact (show ¬ _ by omega) | refine And.intro ?_ ?_
    all_goals exact h
theorem TurnCrowd_c (n : Int) (l : List Int) (s : Int) (hl : l.length ≤ 1099511627776) (hn : -1099511627776 ≤ n ∧ n ≤ 1099511627776) : C 39 [.agg [i64 n, ints l], i64 s] [] (.tuple [.agg [i64 (tcN n s l), .loc 0], pr (crowd n l ∧ 0 ≤ s ∧ s ≤ n - 1)]) [row (tcL n s l)] false := by
  refine mkC false false Try.func39 rfl ?_; refine And.intro nofun ?_
  by_cases h : crowd n l
  · have hn := h.1.1
    by_cases hs : 0 ≤ s ∧ s ≤ n - 1
    · rw [(tc_yes ⟨h, hs⟩).1, (tc_yes ⟨h, hs⟩).2]
      iterate 2 refine Z ?_
      refine callW.mk [] 2 _ _ _ (IsCrowd_c _ _ oka) rfl rfl trivial nofun ?_; refine tN okn ?_; refine Z ?_; refine nw (by omega) (by omega) ?_; refine callW.mk [] 2 _ _ _ (within_c _ _ _) rfl rfl trivial nofun ?_; refine tN okn ?_; refine callW.mk [] 2 _ _ _ (turned_c _ _ _ oka oka) rfl rfl trivial nofun ?_; iterate 4 refine Z ?_
      rotate_left; refine doneV.mk [] [2] rfl rfl ?_ ?_ ?_
      repeat' first | exact trivial | exact rfl | exact Iff.rfl | assumption | exact pureI | exact (show _ = _ by omega) | exact (show _ ≤ _ by omega) | exact (show _ < _ by omega) | exact (show ¬ _ by omega) | refine And.intro ?_ ?_
      all_goals exact ⟨h, hs⟩
    · have hno : ¬ (crowd n l ∧ 0 ≤ s ∧ s ≤ n - 1) := fun x => hs x.2
      rw [(tc_no hno).1, (tc_no hno).2]
      iterate 2 refine Z ?_
      refine callW.mk [] 2 _ _ _ (IsCrowd_c _ _ oka) rfl rfl trivial nofun ?_; refine tN okn ?_; refine Z ?_; refine nw (by omega) (by omega) ?_; refine callW.mk [] 2 _ _ _ (within_c _ _ _) rfl rfl trivial nofun ?_; refine tY oky ?_; iterate 5 refine Z ?_
      rotate_left; refine doneV.mk [1] [2] rfl rfl ?_ ?_ ?_
      repeat' first | exact trivial | exact rfl | exact Iff.rfl | assumption | exact pureI | exact (show _ = _ by omega) | exact (show _ ≤ _ by omega) | exact (show _ < _ by omega) | exact (show ¬ _ by omega) | refine And.intro ?_ ?_
      all_goals exact hno
  · have hno : ¬ (crowd n l ∧ 0 ≤ s ∧ s ≤ n - 1) := fun x => h x.1
    rw [(tc_no hno).1, (tc_no hno).2]
    iterate 2 refine Z ?_
    refine callW.mk [] 2 _ _ _ (IsCrowd_c _ _ oka) rfl rfl trivial nofun ?_; refine tY oky ?_; iterate 5 refine Z ?_
    rotate_left; refine doneV.mk [1] [2] rfl rfl ?_ ?_ ?_
    repeat' first | exact trivial | exact rfl | exact Iff.rfl | assumption | exact pureI | exact (show _ = _ by omega) | exact (show _ ≤ _ by omega) | exact (show _ < _ by omega) | exact (show ¬ _ by omega) | refine And.intro ?_ ?_
    all_goals exact hno
theorem sTurnCrowd_c (n : Int) (l : List Int) (s : Int) (hl : l.length ≤ 1099511627776) (hn : -1099511627776 ≤ n ∧ n ≤ 1099511627776) : C 40 [.agg [i64 n, ints l], i64 s] [] (.tuple [.agg [i64 (tcN n s l), .loc 0], pr (crowd n l ∧ 0 ≤ s ∧ s ≤ n - 1)]) [row (tcL n s l)] false := by
  refine mkC false false Try.func40 rfl ?_; refine And.intro nofun ?_
  by_cases h : crowd n l
  · have hn := h.1.1
    by_cases hs : 0 ≤ s ∧ s ≤ n - 1
    · rw [(tc_yes ⟨h, hs⟩).1, (tc_yes ⟨h, hs⟩).2]
      iterate 2 refine Z ?_
      refine callW.mk [] 2 _ _ _ (l10Crowd_c _ _ oka) rfl rfl trivial nofun ?_; refine tN okn ?_; refine Z ?_; refine nw (by omega) (by omega) ?_; refine callW.mk [] 2 _ _ _ (in_c _ _ _) rfl rfl trivial nofun ?_; refine tN okn ?_; refine callW.mk [] 2 _ _ _ (l10Turned_c _ _ _ oka oka) rfl rfl trivial nofun ?_; iterate 4 refine Z ?_
      rotate_left; refine doneV.mk [] [2] rfl rfl ?_ ?_ ?_
      repeat' first | exact trivial | exact rfl | exact Iff.rfl | assumption | exact pureI | exact (show _ = _ by omega) | exact (show _ ≤ _ by omega) | exact (show _ < _ by omega) | exact (show ¬ _ by omega) | refine And.intro ?_ ?_
      all_goals exact ⟨h, hs⟩
    · have hno : ¬ (crowd n l ∧ 0 ≤ s ∧ s ≤ n - 1) := fun x => hs x.2
      rw [(tc_no hno).1, (tc_no hno).2]
      iterate 2 refine Z ?_
      refine callW.mk [] 2 _ _ _ (l10Crowd_c _ _ oka) rfl rfl trivial nofun ?_; refine tN okn ?_; refine Z ?_; refine nw (by omega) (by omega) ?_; refine callW.mk [] 2 _ _ _ (in_c _ _ _) rfl rfl trivial nofun ?_; refine tY oky ?_; iterate 5 refine Z ?_
      rotate_left; refine doneV.mk [1] [2] rfl rfl ?_ ?_ ?_
      repeat' first | exact trivial | exact rfl | exact Iff.rfl | assumption | exact pureI | exact (show _ = _ by omega) | exact (show _ ≤ _ by omega) | exact (show _ < _ by omega) | exact (show ¬ _ by omega) | refine And.intro ?_ ?_
      all_goals exact hno
  · have hno : ¬ (crowd n l ∧ 0 ≤ s ∧ s ≤ n - 1) := fun x => h x.1
    rw [(tc_no hno).1, (tc_no hno).2]
    iterate 2 refine Z ?_
    refine callW.mk [] 2 _ _ _ (l10Crowd_c _ _ oka) rfl rfl trivial nofun ?_; refine tY oky ?_; iterate 5 refine Z ?_
    rotate_left; refine doneV.mk [1] [2] rfl rfl ?_ ?_ ?_
    repeat' first | exact trivial | exact rfl | exact Iff.rfl | assumption | exact pureI | exact (show _ = _ by omega) | exact (show _ ≤ _ by omega) | exact (show _ < _ by omega) | exact (show ¬ _ by omega) | refine And.intro ?_ ?_
    all_goals exact hno
theorem MirrorCrowd_c (n : Int) (l : List Int) (hl : l.length ≤ 1099511627776) : C 43 [.agg [i64 n, ints l]] [] (.tuple [.agg [i64 (mcN n l), .loc 0], pr (crowd n l)]) [row (mcL n l)] false := by
  refine mkC false false Try.func43 rfl ?_; refine And.intro nofun ?_
  by_cases h : crowd n l
  · rw [(mc_yes h).1, (mc_yes h).2]
    iterate 2 refine Z ?_
    refine callW.mk [] 2 _ _ _ (IsCrowd_c _ _ oka) rfl rfl trivial nofun ?_; refine tN okn ?_; refine callW.mk [] 2 _ _ _ (mirrored_c _ _ oka) rfl rfl trivial nofun ?_; iterate 4 refine Z ?_
    rotate_left; refine doneV.mk [] [2] rfl rfl ?_ ?_ ?_
    repeat' first | exact trivial | exact rfl | exact Iff.rfl | assumption | exact pureI | exact (show _ = _ by omega) | exact (show _ ≤ _ by omega) | exact (show _ < _ by omega) | exact (show ¬ _ by omega) | refine And.intro ?_ ?_
    all_goals exact h
  · rw [(mc_no h).1, (mc_no h).2]
    iterate 2 refine Z ?_
    refine callW.mk [] 2 _ _ _ (IsCrowd_c _ _ oka) rfl rfl trivial nofun ?_; refine tY oky ?_; iterate 5 refine Z ?_
    rotate_left; refine doneV.mk [1] [2] rfl rfl ?_ ?_ ?_
    repeat' first | exact trivial | exact rfl | exact Iff.rfl | assumption | exact pureI | exact (show _ = _ by omega) | exact (show _ ≤ _ by omega) | exact (show _ < _ by omega) | exact (show ¬ _ by omega) | refine And.intro ?_ ?_
    all_goals exact h
theorem sMirrorCrowd_c (n : Int) (l : List Int) (hl : l.length ≤ 1099511627776) : C 44 [.agg [i64 n, ints l]] [] (.tuple [.agg [i64 (mcN n l), .loc 0], pr (crowd n l)]) [row (mcL n l)] false := by
  refine mkC false false Try.func44 rfl ?_; refine And.intro nofun ?_
  by_cases h : crowd n l
  · have hn := h.1.1
    rw [(mc_yes h).1, (mc_yes h).2]
    iterate 2 refine Z ?_
    refine callW.mk [] 2 _ _ _ (l10Crowd_c _ _ oka) rfl rfl trivial nofun ?_; refine tN okn ?_; refine Z ?_; refine nw (by omega) (by omega) ?_; refine callW.mk [] 2 _ _ _ (l10Mirror_c _ _ oka _ oka) rfl rfl trivial nofun ?_; iterate 4 refine Z ?_
    rotate_left; refine doneV.mk [] [2] rfl rfl ?_ ?_ ?_
    repeat' first | exact trivial | exact rfl | exact Iff.rfl | assumption | exact pureI | exact (show _ = _ by omega) | exact (show _ ≤ _ by omega) | exact (show _ < _ by omega) | exact (show ¬ _ by omega) | refine And.intro ?_ ?_
    all_goals exact h
  · rw [(mc_no h).1, (mc_no h).2]
    iterate 2 refine Z ?_
    refine callW.mk [] 2 _ _ _ (l10Crowd_c _ _ oka) rfl rfl trivial nofun ?_; refine tY oky ?_; iterate 5 refine Z ?_
    rotate_left; refine doneV.mk [1] [2] rfl rfl ?_ ?_ ?_
    repeat' first | exact trivial | exact rfl | exact Iff.rfl | assumption | exact pureI | exact (show _ = _ by omega) | exact (show _ ≤ _ by omega) | exact (show _ < _ by omega) | exact (show ¬ _ by omega) | refine And.intro ?_ ?_
    all_goals exact h
end Sx
