/- Contracts: views and gaps, told with validity. -/
import Derived.Test.YteaabofmnlbmkaaGreatSyC
import Derived.Test.YteaabofmnlbmkaaGreatCTd
set_option linter.all false
namespace Sx
open Go Go.Proofs
set_option maxRecDepth 100000
set_option maxHeartbeats 8000000
set_option linter.unusedSimpArgs false
set_option linter.unusedSectionVars false
variable [Glb]
def hasR (n : Int) (l : List Int) (i : Int) : Prop := crowd n l ∧ 0 ≤ i ∧ i ≤ (l.length : Int) - 1
open Classical in
noncomputable instance (n : Int) (l : List Int) (i : Int) : Decidable (hasR n l i) := propDecidable _
theorem isRobot_c (n : Int) (l : List Int) (i : Int) (hl : l.length ≤ 1099511627776) : C 55 [.agg [i64 n, ints l], i64 i] [] (pr (hasR n l i)) [] false := by
  refine mkC false false Tryz.func55 rfl ?_; refine And.intro nofun ?_
  by_cases h : crowd n l
  · refine Z ?_
    refine callW.mk [] 1 _ _ _ (IsCrowd_c _ _ oka) rfl rfl trivial nofun ?_; refine tY oky ?_; refine Z ?_; refine lm ?_; refine nw (by omega) (by omega) ?_; refine callW.mk [] 1 _ _ _ (within_c _ _ _) rfl rfl trivial nofun ?_; rotate_left; refine doneV.mk [] [] rfl rfl ?_ ?_ ?_
    repeat' first | exact trivial | exact rfl | exact Iff.rfl | assumption | exact pureI | exact (show _ = _ by omega) | exact (show _ ≤ _ by omega) | exact (show _ < _ by omega) | exact (show ¬ _ by omega) | refine And.intro ?_ ?_
    all_goals first | exact Iff.intro (fun x => ⟨h, x⟩) (fun x => x.2) | exact fun x => x.2
  · refine Z ?_
    refine callW.mk [] 1 _ _ _ (IsCrowd_c _ _ oka) rfl rfl trivial nofun ?_; refine tN okn ?_; rotate_left; refine doneV.mk [] [] rfl rfl ?_ ?_ ?_
    repeat' first | exact trivial | exact rfl | exact Iff.rfl | assumption | exact pureI | exact (show _ = _ by omega) | exact (show _ ≤ _ by omega) | exact (show _ < _ by omega) | exact (show ¬ _ by omega) | refine And.intro ?_ ?_
    all_goals exact fun x => h x.1
theorem l10Has_c (n : Int) (l : List Int) (i : Int) (hl : l.length ≤ 1099511627776) : C 57 [.agg [i64 n, ints l], i64 i] [] (pr (hasR n l i)) [] false := by
  refine mkC false false Tryz.func57 rfl ?_; refine And.intro nofun ?_
  by_cases h : crowd n l
  · refine Z ?_
    refine callW.mk [] 1 _ _ _ (l10Crowd_c _ _ oka) rfl rfl trivial nofun ?_; refine tY oky ?_; refine Z ?_; refine lm ?_; refine nw (by omega) (by omega) ?_; refine callW.mk [] 1 _ _ _ (in_c _ _ _) rfl rfl trivial nofun ?_; rotate_left; refine doneV.mk [] [] rfl rfl ?_ ?_ ?_
    repeat' first | exact trivial | exact rfl | exact Iff.rfl | assumption | exact pureI | exact (show _ = _ by omega) | exact (show _ ≤ _ by omega) | exact (show _ < _ by omega) | exact (show ¬ _ by omega) | refine And.intro ?_ ?_
    all_goals first | exact Iff.intro (fun x => ⟨h, x⟩) (fun x => x.2) | exact fun x => x.2
  · refine Z ?_
    refine callW.mk [] 1 _ _ _ (l10Crowd_c _ _ oka) rfl rfl trivial nofun ?_; refine tN okn ?_; rotate_left; refine doneV.mk [] [] rfl rfl ?_ ?_ ?_
    repeat' first | exact trivial | exact rfl | exact Iff.rfl | assumption | exact pureI | exact (show _ = _ by omega) | exact (show _ ≤ _ by omega) | exact (show _ < _ by omega) | exact (show ¬ _ by omega) | refine And.intro ?_ ?_
    all_goals exact fun x => h x.1
noncomputable def vwL (n : Int) (l : List Int) (i : Int) : List Int := if hasR n l i then viewL n l i.toNat else []
noncomputable def vwW (n : Int) (l : List Int) (i : Int) : Int := if hasR n l i then wayL n l i.toNat else 0
theorem vw_yes {n : Int} {l : List Int} {i : Int} (h : hasR n l i) : vwL n l i = viewL n l i.toNat ∧ vwW n l i = wayL n l i.toNat := ⟨if_pos h, if_pos h⟩
theorem vw_no {n : Int} {l : List Int} {i : Int} (h : ¬ hasR n l i) : vwL n l i = [] ∧ vwW n l i = 0 := ⟨if_neg h, if_neg h⟩
theorem ViewOf_c (n : Int) (l : List Int) (i : Int) (hl : l.length ≤ 1099511627776) : C 18 [.agg [i64 n, ints l], i64 i] [] (.tuple [.loc 0, i64 (vwW n l i), pr (hasR n l i)]) [row (vwL n l i)] false := by
  refine mkC false false Tryz.func18 rfl ?_; refine And.intro nofun ?_
  by_cases h : hasR n l i
  · obtain ⟨k, rfl⟩ : ∃ k : Nat, i = k := ⟨i.toNat, by have := h.2; omega⟩
    have hc := h.1
    have hk : k < l.length := by have := h.2; omega
    rw [(vw_yes h).1, (vw_yes h).2, Int.toNat_natCast]
    refine Z ?_; refine callW.mk [] 1 _ _ _ (isRobot_c _ _ _ oka) rfl rfl trivial nofun ?_; refine tN okn ?_; refine callW.mk [] 1 _ _ _ (view_c _ _ oka _ oka) rfl rfl trivial nofun ?_; rotate_left; refine doneV.mk [] [1] rfl rfl ?_ ?_ ?_
    repeat' first | exact trivial | exact rfl | exact Iff.rfl | assumption | exact pureI | exact (show _ = _ by omega) | exact (show _ ≤ _ by omega) | exact (show _ < _ by omega) | exact (show ¬ _ by omega) | refine And.intro ?_ ?_
    all_goals exact h
  · rw [(vw_no h).1, (vw_no h).2]
    refine Z ?_; refine callW.mk [] 1 _ _ _ (isRobot_c _ _ _ oka) rfl rfl trivial nofun ?_; refine tY oky ?_; rotate_left; refine doneV.mk [1] [1] rfl rfl ?_ ?_ ?_
    repeat' first | exact trivial | exact rfl | exact Iff.rfl | assumption | exact pureI | exact (show _ = _ by omega) | exact (show _ ≤ _ by omega) | exact (show _ < _ by omega) | exact (show ¬ _ by omega) | refine And.intro ?_ ?_
    all_goals exact h
theorem sViewOf_c (n : Int) (l : List Int) (i : Int) (hl : l.length ≤ 1099511627776) : C 19 [.agg [i64 n, ints l], i64 i] [] (.tuple [.loc 0, i64 (vwW n l i), pr (hasR n l i)]) [row (vwL n l i)] false := by
  refine mkC false false Tryz.func19 rfl ?_; refine And.intro nofun ?_
  by_cases h : hasR n l i
  · obtain ⟨k, rfl⟩ : ∃ k : Nat, i = k := ⟨i.toNat, by have := h.2; omega⟩
    have hc := h.1
    have hk : k < l.length := by have := h.2; omega
    rw [(vw_yes h).1, (vw_yes h).2, Int.toNat_natCast]
    refine Z ?_; refine callW.mk [] 1 _ _ _ (l10Has_c _ _ _ oka) rfl rfl trivial nofun ?_; refine tN okn ?_; refine callW.mk [] 1 _ _ _ (l10View_c _ _ oka _ oka) rfl rfl trivial nofun ?_; rotate_left; refine doneV.mk [] [1] rfl rfl ?_ ?_ ?_
    repeat' first | exact trivial | exact rfl | exact Iff.rfl | assumption | exact pureI | exact (show _ = _ by omega) | exact (show _ ≤ _ by omega) | exact (show _ < _ by omega) | exact (show ¬ _ by omega) | refine And.intro ?_ ?_
    all_goals exact h
  · rw [(vw_no h).1, (vw_no h).2]
    refine Z ?_; refine callW.mk [] 1 _ _ _ (l10Has_c _ _ _ oka) rfl rfl trivial nofun ?_; refine tY oky ?_; iterate 2 refine Z ?_
    rotate_left; refine doneV.mk [1] [1] rfl rfl ?_ ?_ ?_
    repeat' first | exact trivial | exact rfl | exact Iff.rfl | assumption | exact pureI | exact (show _ = _ by omega) | exact (show _ ≤ _ by omega) | exact (show _ < _ by omega) | exact (show ¬ _ by omega) | refine And.intro ?_ ?_
    all_goals exact h
end Sx
