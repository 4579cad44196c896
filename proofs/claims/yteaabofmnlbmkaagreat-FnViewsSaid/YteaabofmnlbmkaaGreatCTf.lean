/- Contracts: gaps, told with validity. -/
import Derived.Test.YteaabofmnlbmkaaGreatSyC
import Derived.Test.YteaabofmnlbmkaaGreatCTe
set_option linter.all false
namespace Sx
open Go Go.Proofs
set_option maxRecDepth 100000
set_option maxHeartbeats 8000000
set_option linter.unusedSimpArgs false
set_option linter.unusedSectionVars false
variable [Glb]
noncomputable def ggR (n : Int) (l : List Int) (i : Int) : List Int := by
  classical exact if hasR n l i then gapsR n l i.toNat else []
theorem gg_yes {n : Int} {l : List Int} {i : Int} (h : hasR n l i) : ggR n l i = gapsR n l i.toNat := by unfold ggR; exact if_pos h
theorem gg_no {n : Int} {l : List Int} {i : Int} (h : ¬ hasR n l i) : ggR n l i = [] := by unfold ggR; exact if_neg h
theorem GapsOf_c (n : Int) (l : List Int) (i : Int) (hl : l.length ≤ 1099511627776) : C 20 [.agg [i64 n, ints l], i64 i] [] (.tuple [.loc 0, .loc 1, pr (hasR n l i)]) [row (ggR n l i), row (ggR n l i).reverse] false := by
  refine mkC false false Tryz.func20 rfl ?_; refine And.intro nofun ?_
  by_cases h : hasR n l i
  · obtain ⟨k, rfl⟩ : ∃ k : Nat, i = k := ⟨i.toNat, by have := h.2; omega⟩
    have hc := h.1
    have hk : k < l.length := by have := h.2; omega
    rw [gg_yes h, Int.toNat_natCast]
    refine Z ?_; refine callW.mk [] 1 _ _ _ (isRobot_c _ _ _ oka) rfl rfl trivial nofun ?_; refine tN okn ?_; refine drawP.mkS (Z (Z ?_)); refine Z ?_
    apply exP.mk
    exact rfl
    apply exP.mk
    exact rfl
    apply exP.mk
    exact rfl
    apply exP.mk
    exact rfl
    refine callW.mk [] 1 _ _ _ (gapsRight_c _ _ oka _ oka) rfl rfl trivial nofun ?_; iterate 3 refine Z ?_
    refine callW.mk [] 2 _ _ _ (gapsLeft_c _ _ oka _ oka) rfl rfl trivial nofun ?_; refine Z ?_
    apply exP.mk
    exact rfl
    apply exP.mk
    exact rfl
    apply exP.mk
    exact rfl
    rotate_left; refine doneV.mk [] [1, 2] rfl rfl ?_ ?_ ?_
    repeat' first | exact trivial | exact rfl | exact Iff.rfl | assumption | exact pureI | exact (show _ = _ by omega) | exact (show _ ≤ _ by omega) | exact (show _ < _ by omega) | exact (show ¬ _ by omega) | refine And.intro ?_ ?_
    all_goals exact h
  · rw [gg_no h]
    refine Z ?_; refine callW.mk [] 1 _ _ _ (isRobot_c _ _ _ oka) rfl rfl trivial nofun ?_; refine tY oky ?_; rotate_left; refine doneV.mk [1, 1] [1, 2] rfl rfl ?_ ?_ ?_
    repeat' first | exact trivial | exact rfl | exact Iff.rfl | assumption | exact pureI | exact (show _ = _ by omega) | exact (show _ ≤ _ by omega) | exact (show _ < _ by omega) | exact (show ¬ _ by omega) | refine And.intro ?_ ?_
    all_goals exact h
theorem sGapsOf_c (n : Int) (l : List Int) (i : Int) (hl : l.length ≤ 1099511627776) : C 21 [.agg [i64 n, ints l], i64 i] [] (.tuple [.loc 0, .loc 1, pr (hasR n l i)]) [row (ggR n l i), row (ggR n l i).reverse] false := by
  refine mkC false false Tryz.func21 rfl ?_; refine And.intro nofun ?_
  by_cases h : hasR n l i
  · obtain ⟨k, rfl⟩ : ∃ k : Nat, i = k := ⟨i.toNat, by have := h.2; omega⟩
    have hc := h.1
    have hk : k < l.length := by have := h.2; omega
    rw [gg_yes h, Int.toNat_natCast]
    refine Z ?_; refine callW.mk [] 1 _ _ _ (l10Has_c _ _ _ oka) rfl rfl trivial nofun ?_; refine tN okn ?_; refine callW.mk [] 1 _ _ _ (l10Gaps_c _ _ oka _ oka) rfl rfl trivial nofun ?_; refine callW.mk [] 2 _ _ _ (l10Back_c _ oka) rfl rfl trivial nofun ?_; rotate_left; refine doneV.mk [] [1, 2] rfl rfl ?_ ?_ ?_
    repeat' first | exact trivial | exact rfl | exact Iff.rfl | assumption | exact pureI | exact (show _ = _ by omega) | exact (show _ ≤ _ by omega) | exact (show _ < _ by omega) | exact (show ¬ _ by omega) | refine And.intro ?_ ?_
    all_goals exact h
  · rw [gg_no h]
    refine Z ?_; refine callW.mk [] 1 _ _ _ (l10Has_c _ _ _ oka) rfl rfl trivial nofun ?_; refine tY oky ?_; iterate 4 refine Z ?_
    rotate_left; refine doneV.mk [1, 1] [1, 2] rfl rfl ?_ ?_ ?_
    repeat' first | exact trivial | exact rfl | exact Iff.rfl | assumption | exact pureI | exact (show _ = _ by omega) | exact (show _ ≤ _ by omega) | exact (show _ < _ by omega) | exact (show ¬ _ by omega) | refine And.intro ?_ ?_
    all_goals exact h
end Sx
