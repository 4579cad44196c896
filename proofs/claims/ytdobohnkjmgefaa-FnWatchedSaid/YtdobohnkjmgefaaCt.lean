/- Contracts: a job done, said. -/
import Derived.Test.YtdobohnkjmgefaaCs
import Derived.Test.YtdobohnkjmgefaaCe
import Derived.Test.YtdobohnkjmgefaaCm
import Derived.Test.YtdobohnkjmgefaaMxN
set_option linter.all false
namespace Sx
open Go Go.Proofs
set_option maxRecDepth 100000
set_option maxHeartbeats 4000000
set_option linter.unusedSimpArgs false
set_option linter.unusedSectionVars false
variable [Glb]
theorem l12Do_c (y : Yd) (hg : good y) (hy : fitY 1099511627776 y) (k a b c : Int) : C 130 [yv y, .agg [i64 k, i64 a, i64 b, i64 c]] [] (.tuple [.agg [i64 (doR y ⟨k, a, b, c⟩).n, bv (doR y ⟨k, a, b, c⟩).b, .loc 0, .loc 1, .loc 2, i64 (doR y ⟨k, a, b, c⟩).c], pr (doOk y ⟨k, a, b, c⟩)]) [row (doR y ⟨k, a, b, c⟩).w, rowS (doR y ⟨k, a, b, c⟩).S, rowK (doR y ⟨k, a, b, c⟩).K] false := by
  have hc := hg.2.2.2.2
  have hf := nxt_fit ⟨k, a, b, c⟩ hg
  have hG : C 115 [.agg [i64 y.n, bv y.b, ints (made y ⟨k, a, b, c⟩).w, sens (made y ⟨k, a, b, c⟩).S, cars (made y ⟨k, a, b, c⟩).K, i64 (y.c + 1)]] [] (pr (good (nxt y ⟨k, a, b, c⟩))) [] false := by
    rw [← nxt_yv]
    exact l12Good_c (nxt y ⟨k, a, b, c⟩) hf
  refine mkC false false Try.func130 rfl ?_
  refine And.intro nofun ?_
  by_cases hm : may y ⟨k, a, b, c⟩
  · by_cases hn : good (nxt y ⟨k, a, b, c⟩)
    · have hd : doOk y ⟨k, a, b, c⟩ := ⟨hm, hn⟩
      rw [doR_yes hd, nxt_n, nxt_b]
      iterate 3 refine Z ?_
      refine callW.mk [] 3 _ _ _ (l12May_c _ (by first | omega | assumption | (simp; omega) | (simp; done)) _ _ _ _) rfl rfl trivial nofun ?_
      refine tN (by first | omega | assumption | exact fun h => h (by assumption) | exact fun h => h rfl | exact fun h => h Iff.rfl) ?_
      refine callW.mk [] 3 _ _ _ ((l12Make_c y hg hy k a b c hm)) rfl rfl (by repeat' first | exact trivial | assumption | exact knownSS | exact knownApp knownSS knownNil | refine And.intro ?_ ?_) nofun ?_
      iterate 6 refine Z ?_
      refine nw (by omega) (by omega) ?_
      iterate 5 refine Z ?_
      refine callW.mk [] 7 _ _ _ (hG) rfl rfl (by repeat' first | exact trivial | assumption | exact knownSS | exact knownApp knownSS knownNil | refine And.intro ?_ ?_) nofun ?_
      refine tN (by first | omega | assumption | exact fun h => h (by assumption) | exact fun h => h rfl | exact fun h => h Iff.rfl) ?_
      iterate 4 refine Z ?_
      rotate_left
      refine doneV.mk [] [3, 4, 5] rfl rfl ?_ ?_ ?_
      repeat' first | exact trivial | exact rfl | exact Iff.rfl | assumption | exact pureI | exact (show _ = _ by omega) | exact (show _ ≤ _ by omega) | exact (show _ < _ by omega) | exact (show ¬ _ by omega) | refine And.intro ?_ ?_
      all_goals first | exact hd | exact pureSen | exact pureCar | exact pureI
    · have hd : ¬ doOk y ⟨k, a, b, c⟩ := fun h => hn h.2
      rw [doR_no hd]
      iterate 3 refine Z ?_
      refine callW.mk [] 3 _ _ _ (l12May_c _ (by first | omega | assumption | (simp; omega) | (simp; done)) _ _ _ _) rfl rfl trivial nofun ?_
      refine tN (by first | omega | assumption | exact fun h => h (by assumption) | exact fun h => h rfl | exact fun h => h Iff.rfl) ?_
      refine callW.mk [] 3 _ _ _ ((l12Make_c y hg hy k a b c hm)) rfl rfl (by repeat' first | exact trivial | assumption | exact knownSS | exact knownApp knownSS knownNil | refine And.intro ?_ ?_) nofun ?_
      iterate 6 refine Z ?_
      refine nw (by omega) (by omega) ?_
      iterate 5 refine Z ?_
      refine callW.mk [] 7 _ _ _ (hG) rfl rfl (by repeat' first | exact trivial | assumption | exact knownSS | exact knownApp knownSS knownNil | refine And.intro ?_ ?_) nofun ?_
      refine tY (by first | omega | assumption | exact rfl | exact Iff.rfl) ?_
      iterate 5 refine Z ?_
      rotate_left
      refine doneV.mk [1, 2, 3] [7, 8, 9] rfl rfl ?_ ?_ ?_
      repeat' first | exact trivial | exact rfl | exact Iff.rfl | assumption | exact pureI | exact (show _ = _ by omega) | exact (show _ ≤ _ by omega) | exact (show _ < _ by omega) | exact (show ¬ _ by omega) | refine And.intro ?_ ?_
      all_goals first | exact hd | exact Bool.false_ne_true | exact pureSen | exact pureCar | exact pureI
  · have hd : ¬ doOk y ⟨k, a, b, c⟩ := fun h => hm h.1
    rw [doR_no hd]
    iterate 3 refine Z ?_
    refine callW.mk [] 3 _ _ _ (l12May_c _ (by first | omega | assumption | (simp; omega) | (simp; done)) _ _ _ _) rfl rfl trivial nofun ?_
    refine tY (by first | omega | assumption | exact rfl | exact Iff.rfl) ?_
    iterate 5 refine Z ?_
    rotate_left
    refine doneV.mk [1, 2, 3] [3, 4, 5] rfl rfl ?_ ?_ ?_
    repeat' first | exact trivial | exact rfl | exact Iff.rfl | assumption | exact pureI | exact (show _ = _ by omega) | exact (show _ ≤ _ by omega) | exact (show _ < _ by omega) | exact (show ¬ _ by omega) | refine And.intro ?_ ?_
    all_goals first | exact hd | exact Bool.false_ne_true | exact pureSen | exact pureCar | exact pureI
theorem sWorkYard_c (y : Yd) (hy : fitY 1099511627776 y) (k a b c : Int) : C 34 [yv y, .agg [i64 k, i64 a, i64 b, i64 c]] [] (.tuple [.agg [i64 (wkR y ⟨k, a, b, c⟩).n, bv (wkR y ⟨k, a, b, c⟩).b, .loc 0, .loc 1, .loc 2, i64 (wkR y ⟨k, a, b, c⟩).c], pr (wkOk y ⟨k, a, b, c⟩)]) [row (wkR y ⟨k, a, b, c⟩).w, rowS (wkR y ⟨k, a, b, c⟩).S, rowK (wkR y ⟨k, a, b, c⟩).K] false := by
  refine mkC false false Try.func34 rfl ?_
  refine And.intro nofun ?_
  by_cases hg : good y
  · rw [wkR_do hg]
    iterate 3 refine Z ?_
    refine callW.mk [] 3 _ _ _ (l12Good_c _ (by first | omega | assumption | (simp; omega) | (simp; done))) rfl rfl trivial nofun ?_
    refine tN (by first | omega | assumption | exact fun h => h (by assumption) | exact fun h => h rfl | exact fun h => h Iff.rfl) ?_
    refine callW.mk [] 3 _ _ _ ((l12Do_c y hg hy k a b c)) rfl rfl (by repeat' first | exact trivial | assumption | exact knownSS | exact knownApp knownSS knownNil | refine And.intro ?_ ?_) nofun ?_
    iterate 4 refine Z ?_
    rotate_left
    refine doneV.mk [] [3, 4, 5] rfl rfl ?_ ?_ ?_
    repeat' first | exact trivial | exact rfl | exact Iff.rfl | assumption | exact pureI | exact (show _ = _ by omega) | exact (show _ ≤ _ by omega) | exact (show _ < _ by omega) | exact (show ¬ _ by omega) | refine And.intro ?_ ?_
    all_goals first | exact pureSen | exact pureCar | exact pureI | skip
    exact (show _ ↔ _ from ⟨fun h => ⟨hg, h⟩, fun h => h.2⟩)
  · have hd : ¬ wkOk y ⟨k, a, b, c⟩ := fun h => hg h.1
    rw [wkR_no hd]
    iterate 3 refine Z ?_
    refine callW.mk [] 3 _ _ _ (l12Good_c _ (by first | omega | assumption | (simp; omega) | (simp; done))) rfl rfl trivial nofun ?_
    refine tY (by first | omega | assumption | exact rfl | exact Iff.rfl) ?_
    iterate 5 refine Z ?_
    rotate_left
    refine doneV.mk [1, 2, 3] [3, 4, 5] rfl rfl ?_ ?_ ?_
    repeat' first | exact trivial | exact rfl | exact Iff.rfl | assumption | exact pureI | exact (show _ = _ by omega) | exact (show _ ≤ _ by omega) | exact (show _ < _ by omega) | exact (show ¬ _ by omega) | refine And.intro ?_ ?_
    all_goals first | exact hd | exact Bool.false_ne_true | exact pureSen | exact pureCar | exact pureI
end Sx
