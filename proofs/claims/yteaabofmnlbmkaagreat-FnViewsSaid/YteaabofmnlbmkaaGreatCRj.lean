/- Contracts: views of robots. -/
import Derived.Test.YteaabofmnlbmkaaGreatSyC
import Derived.Test.YteaabofmnlbmkaaGreatCRi
set_option linter.all false
namespace Sx
open Go Go.Proofs
set_option maxRecDepth 100000
set_option maxHeartbeats 8000000
set_option linter.unusedSimpArgs false
set_option linter.unusedSectionVars false
variable [Glb]
theorem cmpL_anti : ∀ a b : List Int, cmpL b a = - cmpL a b
  | [], [] => rfl
  | [], _ :: _ => rfl
  | _ :: _, [] => rfl
  | a :: xs, b :: ys => by
    unfold cmpL
    rcases Int.lt_trichotomy a b with h | h | h
    · rw [if_neg (by omega), if_pos h, if_pos h]; rfl
    · rw [if_neg (by omega), if_neg (by omega), if_neg (by omega), if_neg (by omega)]
      exact cmpL_anti xs ys
    · rw [if_pos h, if_neg (by omega), if_pos h]
theorem view_c (n : Int) (l : List Int) (hc : crowd n l) (i : Nat) (hi : i < l.length) : C 56 [.agg [i64 n, ints l], i64 i] [] (.tuple [.loc 0, i64 (wayL n l i)]) [row (viewL n l i)] false := by
  have hn := hc.1.1
  have hl := hc.1.2
  have hg := gapsR_len n l i
  have hbd := cmpL_bd (gapsR n l i) (gapsR n l i).reverse
  have hrl : (gapsR n l i).reverse.length = l.length := by rw [List.length_reverse, hg]
  refine mkC false false Tryz.func56 rfl ?_; refine And.intro nofun ?_
  by_cases h : cmpL (gapsR n l i) (gapsR n l i).reverse ≤ 0
  · rw [show viewL n l i = gapsR n l i from if_pos h]
    refine Z ?_; refine drawP.mkS (Z (Z ?_)); refine Z ?_
    apply exP.mk
    exact rfl
    apply exP.mk
    exact rfl
    apply exP.mk
    exact rfl
    apply exP.mk
    exact rfl
    refine callW.mk [] 1 _ _ _ (gapsRight_c _ _ oka _ oka) rfl rfl trivial nofun ?_; iterate 3 refine Z ?_
    refine callW.mk [] 2 _ _ _ (gapsLeft_c _ _ oka _ oka) rfl rfl trivial nofun ?_; refine Z ?_
    apply exP.mk
    exact rfl
    apply exP.mk
    exact rfl
    refine callW.mk [] 3 _ _ _ (Compare_c _ _ oka oka) rfl rfl trivial nofun ?_; refine nw (by omega) (by omega) ?_; refine tN okn ?_; rotate_left; refine doneV.mk [] [1] rfl rfl ?_ ?_ ?_
    repeat' first | exact trivial | exact rfl | exact Iff.rfl | assumption | exact pureI | exact (show _ = _ by omega) | exact (show _ ≤ _ by omega) | exact (show _ < _ by omega) | exact (show ¬ _ by omega) | refine And.intro ?_ ?_
    all_goals (show 0 - cmpL (gapsR n l i) (gapsR n l i).reverse = - cmpL (gapsR n l i) (gapsR n l i).reverse; omega)
  · rw [show viewL n l i = (gapsR n l i).reverse from if_neg h]
    refine Z ?_; refine drawP.mkS (Z (Z ?_)); refine Z ?_
    apply exP.mk
    exact rfl
    apply exP.mk
    exact rfl
    apply exP.mk
    exact rfl
    apply exP.mk
    exact rfl
    refine callW.mk [] 1 _ _ _ (gapsRight_c _ _ oka _ oka) rfl rfl trivial nofun ?_; iterate 3 refine Z ?_
    refine callW.mk [] 2 _ _ _ (gapsLeft_c _ _ oka _ oka) rfl rfl trivial nofun ?_; refine Z ?_
    apply exP.mk
    exact rfl
    apply exP.mk
    exact rfl
    refine callW.mk [] 3 _ _ _ (Compare_c _ _ oka oka) rfl rfl trivial nofun ?_; refine nw (by omega) (by omega) ?_; refine tY oky ?_; rotate_left; refine doneV.mk [] [2] rfl rfl ?_ ?_ ?_
    repeat' first | exact trivial | exact rfl | exact Iff.rfl | assumption | exact pureI | exact (show _ = _ by omega) | exact (show _ ≤ _ by omega) | exact (show _ < _ by omega) | exact (show ¬ _ by omega) | refine And.intro ?_ ?_
    all_goals (show 0 - cmpL (gapsR n l i) (gapsR n l i).reverse = - cmpL (gapsR n l i) (gapsR n l i).reverse; omega)
theorem l10View_c (n : Int) (l : List Int) (hc : crowd n l) (i : Nat) (hi : i < l.length) : C 58 [.agg [i64 n, ints l], i64 i] [] (.tuple [.loc 0, i64 (wayL n l i)]) [row (viewL n l i)] false := by
  have hn := hc.1.1
  have hl := hc.1.2
  have hg := gapsR_len n l i
  have hbd := cmpL_bd (gapsR n l i) (gapsR n l i).reverse
  have hrl : (gapsR n l i).reverse.length = l.length := by rw [List.length_reverse, hg]
  refine mkC false false Tryz.func58 rfl ?_; refine And.intro nofun ?_
  have ha := cmpL_anti (gapsR n l i) (gapsR n l i).reverse
  by_cases h1 : cmpL (gapsR n l i) (gapsR n l i).reverse < 0
  · rw [show viewL n l i = gapsR n l i from if_pos (by omega)]
    refine Z ?_; refine callW.mk [] 1 _ _ _ (l10Gaps_c _ _ oka _ oka) rfl rfl trivial nofun ?_; refine callW.mk [] 2 _ _ _ (l10Back_c _ oka) rfl rfl trivial nofun ?_; refine callW.mk [] 3 _ _ _ (l10Less_c _ _ oka oka) rfl rfl trivial nofun ?_; refine tY oky ?_; rotate_left; refine doneV.mk [] [1] rfl rfl ?_ ?_ ?_
    repeat' first | exact trivial | exact rfl | exact Iff.rfl | assumption | exact pureI | exact (show _ = _ by omega) | exact (show _ ≤ _ by omega) | exact (show _ < _ by omega) | exact (show ¬ _ by omega) | refine And.intro ?_ ?_
    all_goals (show 1 = - cmpL (gapsR n l i) (gapsR n l i).reverse; omega)
  · by_cases h2 : cmpL (gapsR n l i).reverse (gapsR n l i) < 0
    · rw [show viewL n l i = (gapsR n l i).reverse from if_neg (by omega)]
      refine Z ?_; refine callW.mk [] 1 _ _ _ (l10Gaps_c _ _ oka _ oka) rfl rfl trivial nofun ?_; refine callW.mk [] 2 _ _ _ (l10Back_c _ oka) rfl rfl trivial nofun ?_; refine callW.mk [] 3 _ _ _ (l10Less_c _ _ oka oka) rfl rfl trivial nofun ?_; refine tN okn ?_; refine callW.mk [] 3 _ _ _ (l10Less_c _ _ oka oka) rfl rfl trivial nofun ?_; refine tY oky ?_; rotate_left; refine doneV.mk [] [2] rfl rfl ?_ ?_ ?_
      repeat' first | exact trivial | exact rfl | exact Iff.rfl | assumption | exact pureI | exact (show _ = _ by omega) | exact (show _ ≤ _ by omega) | exact (show _ < _ by omega) | exact (show ¬ _ by omega) | refine And.intro ?_ ?_
      all_goals (show -1 = - cmpL (gapsR n l i) (gapsR n l i).reverse; omega)
    · rw [show viewL n l i = gapsR n l i from if_pos (by omega)]
      refine Z ?_; refine callW.mk [] 1 _ _ _ (l10Gaps_c _ _ oka _ oka) rfl rfl trivial nofun ?_; refine callW.mk [] 2 _ _ _ (l10Back_c _ oka) rfl rfl trivial nofun ?_; refine callW.mk [] 3 _ _ _ (l10Less_c _ _ oka oka) rfl rfl trivial nofun ?_; refine tN okn ?_; refine callW.mk [] 3 _ _ _ (l10Less_c _ _ oka oka) rfl rfl trivial nofun ?_; refine tN okn ?_; rotate_left; refine doneV.mk [] [1] rfl rfl ?_ ?_ ?_
      repeat' first | exact trivial | exact rfl | exact Iff.rfl | assumption | exact pureI | exact (show _ = _ by omega) | exact (show _ ≤ _ by omega) | exact (show _ < _ by omega) | exact (show ¬ _ by omega) | refine And.intro ?_ ?_
      all_goals (show 0 = - cmpL (gapsR n l i) (gapsR n l i).reverse; omega)
end Sx
