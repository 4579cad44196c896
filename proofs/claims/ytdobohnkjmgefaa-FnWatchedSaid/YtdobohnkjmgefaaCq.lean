/- Contracts: a sensor is taken away. -/
import Derived.Test.YtdobohnkjmgefaaCp
set_option linter.all false
namespace Sx
open Go Go.Proofs
set_option maxRecDepth 100000
set_option maxHeartbeats 4000000
set_option linter.unusedSimpArgs false
set_option linter.unusedSectionVars false
variable [Glb]
theorem takeE {S : List (Int × Int)} {p : Nat} (h : p < S.length) : List.take (S.length - 1) ((S.eraseIdx p ++ [(0, 0)]).map sen) = (S.eraseIdx p).map sen := by
  have h2 : ((S.eraseIdx p).map sen).length = S.length - 1 := by rw [List.length_map, List.length_eraseIdx, if_pos h]
  rw [List.map_append, List.take_left' h2]
theorem work_c5 (y : Yd) (hg : good y) (k a b c d : Int) (hk : k = 5) (ha : 0 ≤ a ∧ a < (y.S.length : Int)) : C 131 [.prow 0 0 0, .agg [i64 k, i64 a, i64 b, i64 c]] [yrow y.n y.b 1 2 3 d, row y.w, rowS y.S, rowK y.K] (pr (may y ⟨k, a, b, c⟩)) [yrow y.n y.b 1 4 3 d, row y.w, .dead, rowK y.K, rowS (made y ⟨k, a, b, c⟩).S] false := by
  obtain ⟨p, rfl⟩ : ∃ p : Nat, a = p := ⟨a.toNat, by omega⟩
  have hw1 : 1 ≤ (y.w.length : Int) ∧ (y.w.length : Int) ≤ 61 := hg.2.1.1
  have hS := hg.2.2.1.2
  have hK := hg.2.2.2.1.2
  have hwb : 0 ≤ y.w.getD (y.w.length - 1) 0 ∧ y.w.getD (y.w.length - 1) 0 < y.n := by
    have hlt : y.w.length - 1 < y.w.length := by omega
    rw [List.getD_eq_getElem?_getD, List.getElem?_eq_getElem hlt]
    exact hg.2.1.2.1 _ (List.getElem_mem hlt)
  have hn : y.n ≤ 24 := hg.1.1.2.1
  have hm : may y ⟨k, (p : Int), b, c⟩ ↔ (0 ≤ (p : Int) ∧ (p : Int) < (y.S.length : Int)) ∧ b = 0 ∧ c = 0 := by simp [may, hk]
  have hmd : (made y ⟨k, (p : Int), b, c⟩).S = y.S.eraseIdx p := by simp [made, hk]
  refine mkC false false Try.func131 rfl ?_
  refine And.intro nofun ?_
  rw [hmd]
  have hpl : p < y.S.length := by omega
  refine Z ?_
  refine drawP.mk 13 (Z (Z (Z (Z ?_))))
  apply exP.mk
  refine Z ?_
  exact rfl
  apply exP.mk
  exact rfl
  apply exP.mk
  exact rfl
  apply exP.mk
  exact rfl
  refine twoP.mk (fun _ => ?_) (fun _ => ?_)
  apply exP.mk
  refine Z ?_
  exact rfl
  apply exP.mk
  exact rfl
  apply exP.mk
  exact rfl
  apply exP.mk
  refine Z ?_
  exact rfl
  apply exP.mk
  exact rfl
  apply exP.mk
  exact rfl
  apply exP.mk
  exact rfl
  apply exP.mk
  exact rfl
  refine drawP.mkS (Z (Z ?_))
  refine Z ?_
  apply exP.mk
  refine Z ?_
  exact rfl
  apply exP.mk
  exact rfl
  apply exP.mk
  exact rfl
  apply exP.mk
  exact rfl
  apply exP.mk
  refine Z ?_
  exact rfl
  apply exP.mk
  exact rfl
  apply exP.mk
  refine lm ?_
  exact rfl
  apply exP.mk
  refine nw (by omega) (by omega) ?_
  exact rfl
  refine callW.mk [] 5 _ _ _ (within_c _ _ _) rfl rfl trivial nofun ?_
  refine Z ?_
  apply exP.mk
  exact rfl
  refine Z ?_
  iterate 4 refine tN (by first | omega | assumption | exact fun h => h (by assumption) | exact fun h => h rfl | exact fun h => h Iff.rfl) ?_
  iterate 2 refine tY (by first | omega | assumption | exact rfl | exact Iff.rfl) ?_
  refine drawP.mkS (Z (Z ?_))
  refine Z ?_
  apply exP.mk
  exact rfl
  apply exP.mk
  exact rfl
  apply exP.mk
  exact rfl
  apply exP.mk
  refine Z ?_
  exact rfl
  apply exP.mk
  exact rfl
  apply exP.mk
  refine Z ?_
  exact rfl
  apply exP.mk
  exact rfl
  apply exP.mk
  refine Z ?_
  exact rfl
  apply exP.mk
  exact rfl
  apply exP.mk
  refine nw (by omega) (by omega) ?_
  exact rfl
  refine callW.mk [2] 5 _ _ _ (DeleteS_c _ (by first | omega | assumption | (simp; omega) | (simp; done)) _ (by first | omega | assumption | (simp; omega) | (simp; done))) rfl rfl trivial nofun ?_
  iterate 2 refine Z ?_
  apply exP.mk
  exact rfl
  apply exP.mk
  refine Z ?_
  exact rfl
  iterate 5 refine Z ?_
  refine tY (by first | omega | assumption | exact rfl | exact Iff.rfl) ?_
  rotate_left
  apply exP.mk
  refine Z ?_
  exact rfl
  apply exP.mk
  exact rfl
  apply exP.mk
  exact rfl
  apply exP.mk
  exact rfl
  apply exP.mk
  exact rfl
  refine drawP.mkS (Z (Z ?_))
  refine Z ?_
  apply exP.mk
  refine Z ?_
  exact rfl
  apply exP.mk
  exact rfl
  apply exP.mk
  exact rfl
  apply exP.mk
  exact rfl
  apply exP.mk
  refine Z ?_
  exact rfl
  apply exP.mk
  exact rfl
  apply exP.mk
  refine lm ?_
  exact rfl
  apply exP.mk
  refine nw (by omega) (by omega) ?_
  exact rfl
  refine callW.mk [] 5 _ _ _ (within_c _ _ _) rfl rfl trivial nofun ?_
  refine Z ?_
  apply exP.mk
  exact rfl
  refine Z ?_
  iterate 4 refine tN (by first | omega | assumption | exact fun h => h (by assumption) | exact fun h => h rfl | exact fun h => h Iff.rfl) ?_
  iterate 2 refine tY (by first | omega | assumption | exact rfl | exact Iff.rfl) ?_
  refine drawP.mkS (Z (Z ?_))
  refine Z ?_
  apply exP.mk
  exact rfl
  apply exP.mk
  exact rfl
  apply exP.mk
  exact rfl
  apply exP.mk
  refine Z ?_
  exact rfl
  apply exP.mk
  exact rfl
  apply exP.mk
  refine Z ?_
  exact rfl
  apply exP.mk
  exact rfl
  apply exP.mk
  refine Z ?_
  exact rfl
  apply exP.mk
  exact rfl
  apply exP.mk
  refine nw (by omega) (by omega) ?_
  exact rfl
  refine callW.mk [2] 5 _ _ _ (DeleteS_c _ (by first | omega | assumption | (simp; omega) | (simp; done)) _ (by first | omega | assumption | (simp; omega) | (simp; done))) rfl rfl trivial nofun ?_
  iterate 2 refine Z ?_
  apply exP.mk
  exact rfl
  apply exP.mk
  refine Z ?_
  exact rfl
  iterate 5 refine Z ?_
  refine tY (by first | omega | assumption | exact rfl | exact Iff.rfl) ?_
  rotate_left
  · rename_i h1
    refine doneV.cut (.cell 0 3) ?_
    refine Z ?_
    refine er ?_
    rotate_left
    refine doneX.mk [] [0, 1, 2, 3, 5] rfl rfl ?_ ?_ ?_
    repeat' first | exact trivial | exact rfl | exact Iff.rfl | assumption | exact pureI | exact (show _ = _ by omega) | exact (show _ ≤ _ by omega) | exact (show _ < _ by omega) | exact (show ¬ _ by omega) | refine And.intro ?_ ?_
    all_goals first | exact pureY | exact pureSen | exact pureCar | exact pureI | exact takeE hpl | skip
    exact (show _ ↔ _ from ⟨fun h => hm.2 ⟨ha, h1, h⟩, fun h => (hm.1 h).2.2⟩)
  · rename_i h1
    refine doneV.cut (.cell 0 3) ?_
    refine Z ?_
    refine er ?_
    rotate_left
    refine doneX.mk [] [0, 1, 2, 3, 5] rfl rfl ?_ ?_ ?_
    repeat' first | exact trivial | exact rfl | exact Iff.rfl | assumption | exact pureI | exact (show _ = _ by omega) | exact (show _ ≤ _ by omega) | exact (show _ < _ by omega) | exact (show ¬ _ by omega) | refine And.intro ?_ ?_
    all_goals first | exact pureY | exact pureSen | exact pureCar | exact pureI | exact takeE hpl | skip
    exact (show ¬ _ from fun h => h1 (hm.1 h).2.1)
end Sx
