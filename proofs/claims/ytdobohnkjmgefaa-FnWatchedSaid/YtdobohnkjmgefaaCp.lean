/- Contracts: work in a yard. -/
import Derived.Test.YtdobohnkjmgefaaCe
import Derived.Test.YtdobohnkjmgefaaCf
import Derived.Test.YtdobohnkjmgefaaMxL
set_option linter.all false
namespace Sx
open Go Go.Proofs
set_option maxRecDepth 100000
set_option maxHeartbeats 4000000
set_option linter.unusedSimpArgs false
set_option linter.unusedSectionVars false
variable [Glb]
theorem DeleteS_c (l : List (Int × Int)) (hl : l.length ≤ 1099511627776) (p : Nat) (hp : p < l.length) : C 224 [.loc 0, i64 p, i64 ((p : Int) + 1)] [rowS l] (.part 0 0 (l.length - 1)) [rowS (l.eraseIdx p ++ [(0, 0)])] false := by
  refine mkC false false Try.func224 rfl ?_
  refine And.intro nofun ?_
  refine lm ?_
  refine Z ?_
  refine jkm1 (by omega) ?_
  refine jp (by omega) ?_
  refine jk (by omega) ?_
  refine tN (by first | omega | assumption | exact fun h => h (by assumption) | exact fun h => h rfl | exact fun h => h Iff.rfl) ?_
  refine lm ?_
  refine drawP.mk 6 (Z (Z (Z (Z ?_))))
  apply exP.mk
  exact rfl
  apply exP.mk
  exact rfl
  apply exP.mk
  iterate 2 refine Z ?_
  refine jkm1 (by omega) ?_
  exact rfl
  apply exP.mk
  exact rfl
  apply exP.mk
  exact rfl
  apply exP.mk
  iterate 2 refine Z ?_
  refine jpm1 (by omega) ?_
  exact rfl
  iterate 6 refine Z ?_
  refine er ?_
  refine lenP.mk _ rfl ?_
  refine leP.mk (by first | (simp [big]; omega) | (simp [big]; done)) ?_
  refine er ?_
  iterate 2 refine Z ?_
  iterate 2 refine jn (by omega) (by simp; omega) ?_
  iterate 4 refine Z ?_
  refine er ?_
  rotate_left
  refine doneV.mk [] [0] rfl rfl ?_ ?_ ?_
  repeat' first | exact trivial | exact rfl | exact Iff.rfl | assumption | exact pureI | exact (show _ = _ by omega) | exact (show _ ≤ _ by omega) | exact (show _ < _ by omega) | exact (show ¬ _ by omega) | refine And.intro ?_ ?_
  · exact congrArg (AV.part 0 0) (del_num hp)
  · exact del_row hp (del_num hp) rfl rfl
  · exact pureSen
abbrev yrow (n : Int) (b : Bool) (i j k : Nat) (c : Int) : Ent := .row .var 6 [.agg [i64 n, bv b, .loc i, .loc j, .loc k, i64 c]]
theorem last_c (n : Int) (b : Bool) (w : List Int) (S : List (Int × Int)) (K : List (Int × Int × Int)) (c : Int) (hw : 1 ≤ w.length) (hw2 : w.length ≤ 1099511627776) : C 223 [.agg [i64 n, bv b, ints w, sens S, cars K, i64 c]] [] (i64 (w.getD (w.length - 1) 0)) [] false := by
  refine mkC false false Try.func223 rfl ?_
  refine And.intro nofun ?_
  have hg : w[w.length - 1]'(by omega) = w.getD (w.length - 1) 0 := by rw [List.getD_eq_getElem?_getD, List.getElem?_eq_getElem (by omega)]; rfl
  iterate 3 refine Z ?_
  refine lm ?_
  refine nw (by omega) (by omega) ?_
  iterate 2 refine Z ?_
  refine jmm (by omega) (by omega) ?_
  refine gmv (by omega) hg ?_
  rotate_left
  refine doneV.mk [] [] rfl rfl ?_ ?_ ?_
  repeat' first | exact trivial | exact rfl | exact Iff.rfl | assumption | exact pureI | exact (show _ = _ by omega) | exact (show _ ≤ _ by omega) | exact (show _ < _ by omega) | exact (show ¬ _ by omega) | refine And.intro ?_ ?_
theorem work_c1 (y : Yd) (hg : good y) (k a b c d : Int) (hk : k = 1) : C 131 [.prow 0 0 0, .agg [i64 k, i64 a, i64 b, i64 c]] [yrow y.n y.b 1 2 3 d, row y.w, rowS y.S, rowK y.K] (pr (may y ⟨k, a, b, c⟩)) [yrow y.n y.b 4 2 3 d, .dead, rowS y.S, rowK y.K, row (made y ⟨k, a, b, c⟩).w] false := by
  have hw1 : 1 ≤ (y.w.length : Int) ∧ (y.w.length : Int) ≤ 61 := hg.2.1.1
  have hS := hg.2.2.1.2
  have hK := hg.2.2.2.1.2
  have hwb : 0 ≤ y.w.getD (y.w.length - 1) 0 ∧ y.w.getD (y.w.length - 1) 0 < y.n := by
    have hlt : y.w.length - 1 < y.w.length := by omega
    rw [List.getD_eq_getElem?_getD, List.getElem?_eq_getElem hlt]
    exact hg.2.1.2.1 _ (List.getElem_mem hlt)
  have hn : y.n ≤ 24 := hg.1.1.2.1
  have hm : may y ⟨k, a, b, c⟩ ↔ (-1 ≤ a ∧ a ≤ 1) ∧ b = 0 ∧ c = 0 := by simp [may, hk]
  have hmd : (made y ⟨k, a, b, c⟩).w = y.w ++ [y.w.getD (y.w.length - 1) 0 + max (-1) (min 1 a)] := by simp [made, hk]
  refine mkC false false Try.func131 rfl ?_
  refine And.intro nofun ?_
  rw [hmd]
  refine Z ?_
  refine drawP.mk 13 (Z (Z (Z (Z ?_))))
  apply exP.mk
  refine Z ?_
  exact rfl
  apply exP.mk
  exact rfl
  apply exP.mk
  exact rfl
  apply exP.mk
  exact rfl
  refine twoP.mk (fun _ => ?_) (fun _ => ?_)
  apply exP.mk
  refine Z ?_
  exact rfl
  apply exP.mk
  exact rfl
  apply exP.mk
  exact rfl
  apply exP.mk
  refine Z ?_
  exact rfl
  apply exP.mk
  exact rfl
  apply exP.mk
  exact rfl
  apply exP.mk
  exact rfl
  apply exP.mk
  exact rfl
  refine drawP.mkS (Z (Z ?_))
  refine Z ?_
  apply exP.mk
  refine Z ?_
  exact rfl
  apply exP.mk
  exact rfl
  apply exP.mk
  exact rfl
  apply exP.mk
  exact rfl
  apply exP.mk
  refine Z ?_
  exact rfl
  apply exP.mk
  exact rfl
  apply exP.mk
  refine lm ?_
  exact rfl
  apply exP.mk
  refine nw (by omega) (by omega) ?_
  exact rfl
  refine callW.mk [] 5 _ _ _ (within_c _ _ _) rfl rfl trivial nofun ?_
  refine Z ?_
  apply exP.mk
  exact rfl
  refine Z ?_
  refine tY (by first | omega | assumption | exact rfl | exact Iff.rfl) ?_
  refine drawP.mkS (Z (Z ?_))
  refine Z ?_
  apply exP.mk
  exact rfl
  apply exP.mk
  exact rfl
  apply exP.mk
  exact rfl
  apply exP.mk
  refine Z ?_
  exact rfl
  apply exP.mk
  exact rfl
  apply exP.mk
  exact rfl
  apply exP.mk
  exact rfl
  apply exP.mk
  exact rfl
  apply exP.mk
  refine Z ?_
  exact rfl
  apply exP.mk
  exact rfl
  apply exP.mk
  refine nr ?_
  exact rfl
  apply exP.mk
  refine nr ?_
  exact rfl
  refine callW.mk [] 5 _ _ _ (last_c _ _ _ _ _ _ (by first | omega | assumption | (simp; omega) | (simp; done)) (by first | omega | assumption | (simp; omega) | (simp; done))) rfl rfl trivial nofun ?_
  iterate 4 refine Z ?_
  refine And.intro ?_ ?_
  refine Z ?_
  exact rfl
  refine Z ?_
  refine And.intro ?_ ?_
  refine Z ?_
  exact rfl
  refine Z ?_
  refine And.intro ?_ ?_
  refine nr ?_
  exact rfl
  refine And.intro ?_ ?_
  refine nr ?_
  exact rfl
  apply exP.mk
  refine nw (by omega) (by omega) ?_
  exact rfl
  iterate 9 refine Z ?_
  refine And.intro ?_ ?_
  refine Z ?_
  exact rfl
  iterate 6 refine Z ?_
  refine lem1 (by omega) ?_
  refine ea ?_
  iterate 2 refine Z ?_
  apply exP.mk
  exact rfl
  apply exP.mk
  refine Z ?_
  exact rfl
  iterate 5 refine Z ?_
  refine twoP.mk (fun _ => ?_) (fun _ => ?_)
  refine Z ?_
  refine callW.mk [] 7 _ _ _ (within_c _ _ _) rfl rfl trivial nofun ?_
  iterate 2 rotate_left
  apply exP.mk
  refine Z ?_
  exact rfl
  apply exP.mk
  exact rfl
  apply exP.mk
  exact rfl
  apply exP.mk
  exact rfl
  apply exP.mk
  exact rfl
  refine drawP.mkS (Z (Z ?_))
  refine Z ?_
  apply exP.mk
  refine Z ?_
  exact rfl
  apply exP.mk
  exact rfl
  apply exP.mk
  exact rfl
  apply exP.mk
  exact rfl
  apply exP.mk
  refine Z ?_
  exact rfl
  apply exP.mk
  exact rfl
  apply exP.mk
  refine lm ?_
  exact rfl
  apply exP.mk
  refine nw (by omega) (by omega) ?_
  exact rfl
  refine callW.mk [] 5 _ _ _ (within_c _ _ _) rfl rfl trivial nofun ?_
  refine Z ?_
  apply exP.mk
  exact rfl
  refine Z ?_
  refine tY (by first | omega | assumption | exact rfl | exact Iff.rfl) ?_
  refine drawP.mkS (Z (Z ?_))
  refine Z ?_
  apply exP.mk
  exact rfl
  apply exP.mk
  exact rfl
  apply exP.mk
  exact rfl
  apply exP.mk
  refine Z ?_
  exact rfl
  apply exP.mk
  exact rfl
  apply exP.mk
  exact rfl
  apply exP.mk
  exact rfl
  apply exP.mk
  exact rfl
  apply exP.mk
  refine Z ?_
  exact rfl
  apply exP.mk
  exact rfl
  apply exP.mk
  refine nr ?_
  exact rfl
  apply exP.mk
  refine nr ?_
  exact rfl
  refine callW.mk [] 5 _ _ _ (last_c _ _ _ _ _ _ (by first | omega | assumption | (simp; omega) | (simp; done)) (by first | omega | assumption | (simp; omega) | (simp; done))) rfl rfl trivial nofun ?_
  iterate 4 refine Z ?_
  refine And.intro ?_ ?_
  refine Z ?_
  exact rfl
  refine Z ?_
  refine And.intro ?_ ?_
  refine Z ?_
  exact rfl
  refine Z ?_
  refine And.intro ?_ ?_
  refine nr ?_
  exact rfl
  refine And.intro ?_ ?_
  refine nr ?_
  exact rfl
  apply exP.mk
  refine nw (by omega) (by omega) ?_
  exact rfl
  iterate 9 refine Z ?_
  refine And.intro ?_ ?_
  refine Z ?_
  exact rfl
  iterate 6 refine Z ?_
  refine lem1 (by omega) ?_
  refine ea ?_
  iterate 2 refine Z ?_
  apply exP.mk
  exact rfl
  apply exP.mk
  refine Z ?_
  exact rfl
  iterate 5 refine Z ?_
  rotate_left
  · rename_i h1 h2
    refine doneV.mk [] [0, 1, 2, 3, 6] rfl rfl ?_ ?_ ?_
    repeat' first | exact trivial | exact rfl | exact Iff.rfl | assumption | exact pureI | exact (show _ = _ by omega) | exact (show _ ≤ _ by omega) | exact (show _ < _ by omega) | exact (show ¬ _ by omega) | refine And.intro ?_ ?_
    all_goals first | exact pureY | exact pureSen | exact pureCar | exact pureI | exact senA | exact carA | skip
    exact (show _ ↔ _ from ⟨fun h => hm.2 ⟨h, h1, h2⟩, fun h => (hm.1 h).1⟩)
  · rename_i h1 h2
    refine doneV.mk [] [0, 1, 2, 3, 6] rfl rfl ?_ ?_ ?_
    repeat' first | exact trivial | exact rfl | exact Iff.rfl | assumption | exact pureI | exact (show _ = _ by omega) | exact (show _ ≤ _ by omega) | exact (show _ < _ by omega) | exact (show ¬ _ by omega) | refine And.intro ?_ ?_
    all_goals first | exact pureY | exact pureSen | exact pureCar | exact pureI | exact senA | exact carA | skip
    exact (show ¬ _ from fun h => h2 (hm.1 h).2.2)
  · rename_i h1
    refine doneV.mk [] [0, 1, 2, 3, 6] rfl rfl ?_ ?_ ?_
    repeat' first | exact trivial | exact rfl | exact Iff.rfl | assumption | exact pureI | exact (show _ = _ by omega) | exact (show _ ≤ _ by omega) | exact (show _ < _ by omega) | exact (show ¬ _ by omega) | refine And.intro ?_ ?_
    all_goals first | exact pureY | exact pureSen | exact pureCar | exact pureI | exact senA | exact carA | skip
    exact (show ¬ _ from fun h => h1 (hm.1 h).2.1)
theorem work_c3 (y : Yd) (hg : good y) (k a b c d : Int) (hk : k = 3) : C 131 [.prow 0 0 0, .agg [i64 k, i64 a, i64 b, i64 c]] [yrow y.n y.b 1 2 3 d, row y.w, rowS y.S, rowK y.K] (pr (may y ⟨k, a, b, c⟩)) [yrow y.n y.b 1 4 3 d, row y.w, .dead, rowK y.K, rowS (made y ⟨k, a, b, c⟩).S] false := by
  have hw1 : 1 ≤ (y.w.length : Int) ∧ (y.w.length : Int) ≤ 61 := hg.2.1.1
  have hS := hg.2.2.1.2
  have hK := hg.2.2.2.1.2
  have hwb : 0 ≤ y.w.getD (y.w.length - 1) 0 ∧ y.w.getD (y.w.length - 1) 0 < y.n := by
    have hlt : y.w.length - 1 < y.w.length := by omega
    rw [List.getD_eq_getElem?_getD, List.getElem?_eq_getElem hlt]
    exact hg.2.1.2.1 _ (List.getElem_mem hlt)
  have hn : y.n ≤ 24 := hg.1.1.2.1
  have hm : may y ⟨k, a, b, c⟩ ↔ c = 0 := by simp [may, hk]
  have hmd : (made y ⟨k, a, b, c⟩).S = y.S ++ [(a, b)] := by simp [made, hk]
  refine mkC false false Try.func131 rfl ?_
  refine And.intro nofun ?_
  rw [hmd]
  refine Z ?_
  refine drawP.mk 13 (Z (Z (Z (Z ?_))))
  apply exP.mk
  refine Z ?_
  exact rfl
  apply exP.mk
  exact rfl
  apply exP.mk
  exact rfl
  apply exP.mk
  exact rfl
  refine twoP.mk (fun _ => ?_) (fun _ => ?_)
  apply exP.mk
  refine Z ?_
  exact rfl
  apply exP.mk
  exact rfl
  apply exP.mk
  exact rfl
  apply exP.mk
  refine Z ?_
  exact rfl
  apply exP.mk
  exact rfl
  apply exP.mk
  exact rfl
  apply exP.mk
  exact rfl
  apply exP.mk
  exact rfl
  refine drawP.mkS (Z (Z ?_))
  refine Z ?_
  apply exP.mk
  refine Z ?_
  exact rfl
  apply exP.mk
  exact rfl
  apply exP.mk
  exact rfl
  apply exP.mk
  exact rfl
  apply exP.mk
  refine Z ?_
  exact rfl
  apply exP.mk
  exact rfl
  apply exP.mk
  refine lm ?_
  exact rfl
  apply exP.mk
  refine nw (by omega) (by omega) ?_
  exact rfl
  refine callW.mk [] 5 _ _ _ (within_c _ _ _) rfl rfl trivial nofun ?_
  refine Z ?_
  apply exP.mk
  exact rfl
  refine Z ?_
  iterate 2 refine tN (by first | omega | assumption | exact fun h => h (by assumption) | exact fun h => h rfl | exact fun h => h Iff.rfl) ?_
  refine tY (by first | omega | assumption | exact rfl | exact Iff.rfl) ?_
  refine drawP.mkS (Z (Z ?_))
  refine Z ?_
  apply exP.mk
  exact rfl
  apply exP.mk
  exact rfl
  apply exP.mk
  exact rfl
  apply exP.mk
  refine Z ?_
  exact rfl
  apply exP.mk
  exact rfl
  apply exP.mk
  refine Z ?_
  exact rfl
  apply exP.mk
  exact rfl
  apply exP.mk
  refine Z ?_
  exact rfl
  apply exP.mk
  exact rfl
  apply exP.mk
  iterate 7 refine Z ?_
  exact rfl
  iterate 9 refine Z ?_
  refine And.intro ?_ ?_
  refine Z ?_
  exact rfl
  iterate 6 refine Z ?_
  refine lem1 (by omega) ?_
  refine er ?_
  iterate 2 refine Z ?_
  apply exP.mk
  exact rfl
  apply exP.mk
  refine Z ?_
  exact rfl
  iterate 5 refine Z ?_
  rotate_left
  apply exP.mk
  refine Z ?_
  exact rfl
  apply exP.mk
  exact rfl
  apply exP.mk
  exact rfl
  apply exP.mk
  exact rfl
  apply exP.mk
  exact rfl
  refine drawP.mkS (Z (Z ?_))
  refine Z ?_
  apply exP.mk
  refine Z ?_
  exact rfl
  apply exP.mk
  exact rfl
  apply exP.mk
  exact rfl
  apply exP.mk
  exact rfl
  apply exP.mk
  refine Z ?_
  exact rfl
  apply exP.mk
  exact rfl
  apply exP.mk
  refine lm ?_
  exact rfl
  apply exP.mk
  refine nw (by omega) (by omega) ?_
  exact rfl
  refine callW.mk [] 5 _ _ _ (within_c _ _ _) rfl rfl trivial nofun ?_
  refine Z ?_
  apply exP.mk
  exact rfl
  refine Z ?_
  iterate 2 refine tN (by first | omega | assumption | exact fun h => h (by assumption) | exact fun h => h rfl | exact fun h => h Iff.rfl) ?_
  refine tY (by first | omega | assumption | exact rfl | exact Iff.rfl) ?_
  refine drawP.mkS (Z (Z ?_))
  refine Z ?_
  apply exP.mk
  exact rfl
  apply exP.mk
  exact rfl
  apply exP.mk
  exact rfl
  apply exP.mk
  refine Z ?_
  exact rfl
  apply exP.mk
  exact rfl
  apply exP.mk
  refine Z ?_
  exact rfl
  apply exP.mk
  exact rfl
  apply exP.mk
  refine Z ?_
  exact rfl
  apply exP.mk
  exact rfl
  apply exP.mk
  iterate 7 refine Z ?_
  exact rfl
  iterate 9 refine Z ?_
  refine And.intro ?_ ?_
  refine Z ?_
  exact rfl
  iterate 6 refine Z ?_
  refine lem1 (by omega) ?_
  refine er ?_
  iterate 2 refine Z ?_
  apply exP.mk
  exact rfl
  apply exP.mk
  refine Z ?_
  exact rfl
  iterate 5 refine Z ?_
  rotate_left
  · refine doneV.mk [] [0, 1, 2, 3, 6] rfl rfl ?_ ?_ ?_
    repeat' first | exact trivial | exact rfl | exact Iff.rfl | assumption | exact pureI | exact (show _ = _ by omega) | exact (show _ ≤ _ by omega) | exact (show _ < _ by omega) | exact (show ¬ _ by omega) | refine And.intro ?_ ?_
    all_goals first | exact pureY | exact pureSen | exact pureCar | exact pureI | exact senA | exact carA | skip
    exact (show _ ↔ _ from ⟨hm.2, hm.1⟩)
  · refine doneV.mk [] [0, 1, 2, 3, 6] rfl rfl ?_ ?_ ?_
    repeat' first | exact trivial | exact rfl | exact Iff.rfl | assumption | exact pureI | exact (show _ = _ by omega) | exact (show _ ≤ _ by omega) | exact (show _ < _ by omega) | exact (show ¬ _ by omega) | refine And.intro ?_ ?_
    all_goals first | exact pureY | exact pureSen | exact pureCar | exact pureI | exact senA | exact carA | skip
    exact (show _ ↔ _ from ⟨hm.2, hm.1⟩)
theorem work_c6 (y : Yd) (hg : good y) (k a b c d : Int) (hk : k = 6) : C 131 [.prow 0 0 0, .agg [i64 k, i64 a, i64 b, i64 c]] [yrow y.n y.b 1 2 3 d, row y.w, rowS y.S, rowK y.K] (pr (may y ⟨k, a, b, c⟩)) [yrow y.n y.b 1 2 4 d, row y.w, rowS y.S, .dead, rowK (made y ⟨k, a, b, c⟩).K] false := by
  have hw1 : 1 ≤ (y.w.length : Int) ∧ (y.w.length : Int) ≤ 61 := hg.2.1.1
  have hS := hg.2.2.1.2
  have hK := hg.2.2.2.1.2
  have hwb : 0 ≤ y.w.getD (y.w.length - 1) 0 ∧ y.w.getD (y.w.length - 1) 0 < y.n := by
    have hlt : y.w.length - 1 < y.w.length := by omega
    rw [List.getD_eq_getElem?_getD, List.getElem?_eq_getElem hlt]
    exact hg.2.1.2.1 _ (List.getElem_mem hlt)
  have hn : y.n ≤ 24 := hg.1.1.2.1
  have hm : may y ⟨k, a, b, c⟩ ↔ True := by simp [may, hk]
  have hmd : (made y ⟨k, a, b, c⟩).K = y.K ++ [(a, b, c)] := by simp [made, hk]
  refine mkC false false Try.func131 rfl ?_
  refine And.intro nofun ?_
  rw [hmd]
  refine Z ?_
  refine drawP.mk 13 (Z (Z (Z (Z ?_))))
  apply exP.mk
  refine Z ?_
  exact rfl
  apply exP.mk
  exact rfl
  apply exP.mk
  exact rfl
  apply exP.mk
  exact rfl
  refine twoP.mk (fun _ => ?_) (fun _ => ?_)
  apply exP.mk
  refine Z ?_
  exact rfl
  apply exP.mk
  exact rfl
  apply exP.mk
  exact rfl
  apply exP.mk
  refine Z ?_
  exact rfl
  apply exP.mk
  exact rfl
  apply exP.mk
  exact rfl
  apply exP.mk
  exact rfl
  apply exP.mk
  exact rfl
  refine drawP.mkS (Z (Z ?_))
  refine Z ?_
  apply exP.mk
  refine Z ?_
  exact rfl
  apply exP.mk
  exact rfl
  apply exP.mk
  exact rfl
  apply exP.mk
  exact rfl
  apply exP.mk
  refine Z ?_
  exact rfl
  apply exP.mk
  exact rfl
  apply exP.mk
  refine lm ?_
  exact rfl
  apply exP.mk
  refine nw (by omega) (by omega) ?_
  exact rfl
  refine callW.mk [] 5 _ _ _ (within_c _ _ _) rfl rfl trivial nofun ?_
  refine Z ?_
  apply exP.mk
  exact rfl
  refine Z ?_
  iterate 5 refine tN (by first | omega | assumption | exact fun h => h (by assumption) | exact fun h => h rfl | exact fun h => h Iff.rfl) ?_
  refine tY (by first | omega | assumption | exact rfl | exact Iff.rfl) ?_
  refine drawP.mkS (Z (Z ?_))
  refine Z ?_
  apply exP.mk
  exact rfl
  apply exP.mk
  exact rfl
  apply exP.mk
  exact rfl
  apply exP.mk
  refine Z ?_
  exact rfl
  apply exP.mk
  exact rfl
  apply exP.mk
  refine Z ?_
  exact rfl
  apply exP.mk
  exact rfl
  apply exP.mk
  refine Z ?_
  exact rfl
  apply exP.mk
  exact rfl
  apply exP.mk
  refine Z ?_
  exact rfl
  apply exP.mk
  exact rfl
  apply exP.mk
  iterate 10 refine Z ?_
  exact rfl
  iterate 9 refine Z ?_
  refine And.intro ?_ ?_
  refine Z ?_
  exact rfl
  iterate 6 refine Z ?_
  refine lem1 (by omega) ?_
  refine er ?_
  iterate 2 refine Z ?_
  apply exP.mk
  exact rfl
  apply exP.mk
  refine Z ?_
  exact rfl
  iterate 5 refine Z ?_
  rotate_left
  apply exP.mk
  refine Z ?_
  exact rfl
  apply exP.mk
  exact rfl
  apply exP.mk
  exact rfl
  apply exP.mk
  exact rfl
  apply exP.mk
  exact rfl
  refine drawP.mkS (Z (Z ?_))
  refine Z ?_
  apply exP.mk
  refine Z ?_
  exact rfl
  apply exP.mk
  exact rfl
  apply exP.mk
  exact rfl
  apply exP.mk
  exact rfl
  apply exP.mk
  refine Z ?_
  exact rfl
  apply exP.mk
  exact rfl
  apply exP.mk
  refine lm ?_
  exact rfl
  apply exP.mk
  refine nw (by omega) (by omega) ?_
  exact rfl
  refine callW.mk [] 5 _ _ _ (within_c _ _ _) rfl rfl trivial nofun ?_
  refine Z ?_
  apply exP.mk
  exact rfl
  refine Z ?_
  iterate 5 refine tN (by first | omega | assumption | exact fun h => h (by assumption) | exact fun h => h rfl | exact fun h => h Iff.rfl) ?_
  refine tY (by first | omega | assumption | exact rfl | exact Iff.rfl) ?_
  refine drawP.mkS (Z (Z ?_))
  refine Z ?_
  apply exP.mk
  exact rfl
  apply exP.mk
  exact rfl
  apply exP.mk
  exact rfl
  apply exP.mk
  refine Z ?_
  exact rfl
  apply exP.mk
  exact rfl
  apply exP.mk
  refine Z ?_
  exact rfl
  apply exP.mk
  exact rfl
  apply exP.mk
  refine Z ?_
  exact rfl
  apply exP.mk
  exact rfl
  apply exP.mk
  refine Z ?_
  exact rfl
  apply exP.mk
  exact rfl
  apply exP.mk
  iterate 10 refine Z ?_
  exact rfl
  iterate 9 refine Z ?_
  refine And.intro ?_ ?_
  refine Z ?_
  exact rfl
  iterate 6 refine Z ?_
  refine lem1 (by omega) ?_
  refine er ?_
  iterate 2 refine Z ?_
  apply exP.mk
  exact rfl
  apply exP.mk
  refine Z ?_
  exact rfl
  iterate 5 refine Z ?_
  rotate_left
  · refine doneV.mk [] [0, 1, 2, 3, 6] rfl rfl ?_ ?_ ?_
    repeat' first | exact trivial | exact rfl | exact Iff.rfl | assumption | exact pureI | exact (show _ = _ by omega) | exact (show _ ≤ _ by omega) | exact (show _ < _ by omega) | exact (show ¬ _ by omega) | refine And.intro ?_ ?_
    all_goals first | exact pureY | exact pureSen | exact pureCar | exact pureI | exact senA | exact carA | skip
    all_goals exact (show _ from hm.2 trivial)
  · refine doneV.mk [] [0, 1, 2, 3, 6] rfl rfl ?_ ?_ ?_
    repeat' first | exact trivial | exact rfl | exact Iff.rfl | assumption | exact pureI | exact (show _ = _ by omega) | exact (show _ ≤ _ by omega) | exact (show _ < _ by omega) | exact (show ¬ _ by omega) | refine And.intro ?_ ?_
    all_goals first | exact pureY | exact pureSen | exact pureCar | exact pureI | exact senA | exact carA | skip
    all_goals exact (show _ from hm.2 trivial)
theorem work_c2 (y : Yd) (hg : good y) (k a b c d : Int) (hk : k = 2) (hl : y.w.length ≠ 1) : C 131 [.prow 0 0 0, .agg [i64 k, i64 a, i64 b, i64 c]] [yrow y.n y.b 1 2 3 d, row y.w, rowS y.S, rowK y.K] (pr (may y ⟨k, a, b, c⟩)) [yrow y.n y.b 4 2 3 d, .dead, rowS y.S, rowK y.K, row (made y ⟨k, a, b, c⟩).w] false := by
  have hw1 : 1 ≤ (y.w.length : Int) ∧ (y.w.length : Int) ≤ 61 := hg.2.1.1
  have hS := hg.2.2.1.2
  have hK := hg.2.2.2.1.2
  have hwb : 0 ≤ y.w.getD (y.w.length - 1) 0 ∧ y.w.getD (y.w.length - 1) 0 < y.n := by
    have hlt : y.w.length - 1 < y.w.length := by omega
    rw [List.getD_eq_getElem?_getD, List.getElem?_eq_getElem hlt]
    exact hg.2.1.2.1 _ (List.getElem_mem hlt)
  have hn : y.n ≤ 24 := hg.1.1.2.1
  have hm : may y ⟨k, a, b, c⟩ ↔ 1 < (y.w.length : Int) ∧ a = 0 ∧ b = 0 ∧ c = 0 := by simp [may, hk]
  have hmd : (made y ⟨k, a, b, c⟩).w = y.w.take (y.w.length - 1) := by simp [made, hk]
  refine mkC false false Try.func131 rfl ?_
  refine And.intro nofun ?_
  rw [hmd]
  refine Z ?_
  refine drawP.mk 13 (Z (Z (Z (Z ?_))))
  apply exP.mk
  refine Z ?_
  exact rfl
  apply exP.mk
  exact rfl
  apply exP.mk
  exact rfl
  apply exP.mk
  exact rfl
  refine twoP.mk (fun _ => ?_) (fun _ => ?_)
  apply exP.mk
  refine Z ?_
  exact rfl
  apply exP.mk
  exact rfl
  apply exP.mk
  exact rfl
  apply exP.mk
  refine Z ?_
  exact rfl
  apply exP.mk
  exact rfl
  apply exP.mk
  exact rfl
  apply exP.mk
  exact rfl
  apply exP.mk
  exact rfl
  refine drawP.mkS (Z (Z ?_))
  refine Z ?_
  apply exP.mk
  refine Z ?_
  exact rfl
  apply exP.mk
  exact rfl
  apply exP.mk
  exact rfl
  apply exP.mk
  exact rfl
  apply exP.mk
  refine Z ?_
  exact rfl
  apply exP.mk
  exact rfl
  apply exP.mk
  refine lm ?_
  exact rfl
  apply exP.mk
  refine nw (by omega) (by omega) ?_
  exact rfl
  refine callW.mk [] 5 _ _ _ (within_c _ _ _) rfl rfl trivial nofun ?_
  refine Z ?_
  apply exP.mk
  exact rfl
  refine Z ?_
  refine tN (by first | omega | assumption | exact fun h => h (by assumption) | exact fun h => h rfl | exact fun h => h Iff.rfl) ?_
  refine tY (by first | omega | assumption | exact rfl | exact Iff.rfl) ?_
  refine Z ?_
  refine lm ?_
  refine tN (by first | omega | assumption | exact fun h => h (by assumption) | exact fun h => h rfl | exact fun h => h Iff.rfl) ?_
  refine drawP.mkS (Z (Z ?_))
  refine Z ?_
  apply exP.mk
  exact rfl
  apply exP.mk
  exact rfl
  apply exP.mk
  exact rfl
  apply exP.mk
  refine Z ?_
  exact rfl
  apply exP.mk
  exact rfl
  apply exP.mk
  exact rfl
  apply exP.mk
  exact rfl
  apply exP.mk
  refine Z ?_
  exact rfl
  apply exP.mk
  exact rfl
  apply exP.mk
  refine lm ?_
  exact rfl
  apply exP.mk
  refine nw (by omega) (by omega) ?_
  exact rfl
  apply exP.mk
  iterate 2 refine Z ?_
  refine jnm1 (by omega) (by omega) ?_
  exact rfl
  apply exP.mk
  exact rfl
  apply exP.mk
  refine Z ?_
  exact rfl
  iterate 5 refine Z ?_
  refine twoP.mk (fun _ => ?_) (fun _ => ?_)
  refine Z ?_
  iterate 2 rotate_left
  apply exP.mk
  refine Z ?_
  exact rfl
  apply exP.mk
  exact rfl
  apply exP.mk
  exact rfl
  apply exP.mk
  exact rfl
  apply exP.mk
  exact rfl
  refine drawP.mkS (Z (Z ?_))
  refine Z ?_
  apply exP.mk
  refine Z ?_
  exact rfl
  apply exP.mk
  exact rfl
  apply exP.mk
  exact rfl
  apply exP.mk
  exact rfl
  apply exP.mk
  refine Z ?_
  exact rfl
  apply exP.mk
  exact rfl
  apply exP.mk
  refine lm ?_
  exact rfl
  apply exP.mk
  refine nw (by omega) (by omega) ?_
  exact rfl
  refine callW.mk [] 5 _ _ _ (within_c _ _ _) rfl rfl trivial nofun ?_
  refine Z ?_
  apply exP.mk
  exact rfl
  refine Z ?_
  refine tN (by first | omega | assumption | exact fun h => h (by assumption) | exact fun h => h rfl | exact fun h => h Iff.rfl) ?_
  refine tY (by first | omega | assumption | exact rfl | exact Iff.rfl) ?_
  refine Z ?_
  refine lm ?_
  refine tN (by first | omega | assumption | exact fun h => h (by assumption) | exact fun h => h rfl | exact fun h => h Iff.rfl) ?_
  refine drawP.mkS (Z (Z ?_))
  refine Z ?_
  apply exP.mk
  exact rfl
  apply exP.mk
  exact rfl
  apply exP.mk
  exact rfl
  apply exP.mk
  refine Z ?_
  exact rfl
  apply exP.mk
  exact rfl
  apply exP.mk
  exact rfl
  apply exP.mk
  exact rfl
  apply exP.mk
  refine Z ?_
  exact rfl
  apply exP.mk
  exact rfl
  apply exP.mk
  refine lm ?_
  exact rfl
  apply exP.mk
  refine nw (by omega) (by omega) ?_
  exact rfl
  apply exP.mk
  iterate 2 refine Z ?_
  refine jnm1 (by omega) (by omega) ?_
  exact rfl
  apply exP.mk
  exact rfl
  apply exP.mk
  refine Z ?_
  exact rfl
  iterate 5 refine Z ?_
  rotate_left
  · rename_i h1 h2
    refine doneV.cut (.cell 0 2) ?_
    refine Z ?_
    refine er ?_
    rotate_left
    refine doneX.mk [] [0, 1, 2, 3, 5] rfl rfl ?_ ?_ ?_
    repeat' first | exact trivial | exact rfl | exact Iff.rfl | assumption | exact pureI | exact (show _ = _ by omega) | exact (show _ ≤ _ by omega) | exact (show _ < _ by omega) | exact (show ¬ _ by omega) | refine And.intro ?_ ?_
    all_goals first | exact pureY | exact pureSen | exact pureCar | exact pureI | exact senA | exact carA | skip
    · exact (show _ ↔ _ from ⟨fun h => hm.2 ⟨by omega, h, h1, h2⟩, fun h => (hm.1 h).2.1⟩)
    · exact takeW hw1.1
  · rename_i h1 h2
    refine doneV.cut (.cell 0 2) ?_
    refine Z ?_
    refine er ?_
    rotate_left
    refine doneX.mk [] [0, 1, 2, 3, 5] rfl rfl ?_ ?_ ?_
    repeat' first | exact trivial | exact rfl | exact Iff.rfl | assumption | exact pureI | exact (show _ = _ by omega) | exact (show _ ≤ _ by omega) | exact (show _ < _ by omega) | exact (show ¬ _ by omega) | refine And.intro ?_ ?_
    all_goals first | exact pureY | exact pureSen | exact pureCar | exact pureI | exact senA | exact carA | skip
    · exact (show ¬ _ from fun h => h2 (hm.1 h).2.2.2)
    · exact takeW hw1.1
  · rename_i h1
    refine doneV.cut (.cell 0 2) ?_
    refine Z ?_
    refine er ?_
    rotate_left
    refine doneX.mk [] [0, 1, 2, 3, 5] rfl rfl ?_ ?_ ?_
    repeat' first | exact trivial | exact rfl | exact Iff.rfl | assumption | exact pureI | exact (show _ = _ by omega) | exact (show _ ≤ _ by omega) | exact (show _ < _ by omega) | exact (show ¬ _ by omega) | refine And.intro ?_ ?_
    all_goals first | exact pureY | exact pureSen | exact pureCar | exact pureI | exact senA | exact carA | skip
    · exact (show ¬ _ from fun h => h1 (hm.1 h).2.2.1)
    · exact takeW hw1.1
theorem work_c4 (y : Yd) (hg : good y) (k a b c d : Int) (hk : k = 4) (ha : 0 ≤ a ∧ a < (y.S.length : Int)) : C 131 [.prow 0 0 0, .agg [i64 k, i64 a, i64 b, i64 c]] [yrow y.n y.b 1 2 3 d, row y.w, rowS y.S, rowK y.K] (pr (may y ⟨k, a, b, c⟩)) [yrow y.n y.b 1 2 3 d, row y.w, rowS (made y ⟨k, a, b, c⟩).S, rowK y.K] false := by
  have hw1 : 1 ≤ (y.w.length : Int) ∧ (y.w.length : Int) ≤ 61 := hg.2.1.1
  have hS := hg.2.2.1.2
  have hK := hg.2.2.2.1.2
  have hwb : 0 ≤ y.w.getD (y.w.length - 1) 0 ∧ y.w.getD (y.w.length - 1) 0 < y.n := by
    have hlt : y.w.length - 1 < y.w.length := by omega
    rw [List.getD_eq_getElem?_getD, List.getElem?_eq_getElem hlt]
    exact hg.2.1.2.1 _ (List.getElem_mem hlt)
  have hn : y.n ≤ 24 := hg.1.1.2.1
  have hm : may y ⟨k, a, b, c⟩ ↔ (0 ≤ a ∧ a < (y.S.length : Int)) ∧ c = 0 := by simp [may, hk]
  have hmd : (made y ⟨k, a, b, c⟩).S = y.S.set a.toNat (b, (y.S.getD a.toNat (0, 0)).2) := by simp [made, hk]
  refine mkC false false Try.func131 rfl ?_
  refine And.intro nofun ?_
  rw [hmd]
  have hgd : y.S.getD a.toNat (0, 0) = y.S[a.toNat]'(by omega) := by rw [List.getD_eq_getElem?_getD, List.getElem?_eq_getElem (by omega)]; rfl
  rw [hgd]
  refine Z ?_
  refine drawP.mk 13 (Z (Z (Z (Z ?_))))
  apply exP.mk
  refine Z ?_
  exact rfl
  apply exP.mk
  exact rfl
  apply exP.mk
  exact rfl
  apply exP.mk
  exact rfl
  refine twoP.mk (fun _ => ?_) (fun _ => ?_)
  apply exP.mk
  refine Z ?_
  exact rfl
  apply exP.mk
  exact rfl
  apply exP.mk
  exact rfl
  apply exP.mk
  refine Z ?_
  exact rfl
  apply exP.mk
  exact rfl
  apply exP.mk
  exact rfl
  apply exP.mk
  exact rfl
  apply exP.mk
  exact rfl
  refine drawP.mkS (Z (Z ?_))
  refine Z ?_
  apply exP.mk
  refine Z ?_
  exact rfl
  apply exP.mk
  exact rfl
  apply exP.mk
  exact rfl
  apply exP.mk
  exact rfl
  apply exP.mk
  refine Z ?_
  exact rfl
  apply exP.mk
  exact rfl
  apply exP.mk
  refine lm ?_
  exact rfl
  apply exP.mk
  refine nw (by omega) (by omega) ?_
  exact rfl
  refine callW.mk [] 5 _ _ _ (within_c _ _ _) rfl rfl trivial nofun ?_
  refine Z ?_
  apply exP.mk
  exact rfl
  refine Z ?_
  iterate 3 refine tN (by first | omega | assumption | exact fun h => h (by assumption) | exact fun h => h rfl | exact fun h => h Iff.rfl) ?_
  iterate 2 refine tY (by first | omega | assumption | exact rfl | exact Iff.rfl) ?_
  refine drawP.mkS (Z (Z ?_))
  refine Z ?_
  apply exP.mk
  exact rfl
  apply exP.mk
  exact rfl
  apply exP.mk
  refine Z ?_
  exact rfl
  apply exP.mk
  exact rfl
  apply exP.mk
  refine Z ?_
  exact rfl
  apply exP.mk
  exact rfl
  apply exP.mk
  refine Z ?_
  exact rfl
  apply exP.mk
  exact rfl
  apply exP.mk
  iterate 2 refine Z ?_
  refine jnm (by omega) (by omega) ?_
  exact rfl
  apply exP.mk
  refine Z ?_
  exact rfl
  iterate 2 refine Z ?_
  refine gm (by omega) ?_
  refine Z ?_
  refine esetS ?_
  refine Z ?_
  refine tY (by first | omega | assumption | exact rfl | exact Iff.rfl) ?_
  rotate_left
  apply exP.mk
  refine Z ?_
  exact rfl
  apply exP.mk
  exact rfl
  apply exP.mk
  exact rfl
  apply exP.mk
  exact rfl
  apply exP.mk
  exact rfl
  refine drawP.mkS (Z (Z ?_))
  refine Z ?_
  apply exP.mk
  refine Z ?_
  exact rfl
  apply exP.mk
  exact rfl
  apply exP.mk
  exact rfl
  apply exP.mk
  exact rfl
  apply exP.mk
  refine Z ?_
  exact rfl
  apply exP.mk
  exact rfl
  apply exP.mk
  refine lm ?_
  exact rfl
  apply exP.mk
  refine nw (by omega) (by omega) ?_
  exact rfl
  refine callW.mk [] 5 _ _ _ (within_c _ _ _) rfl rfl trivial nofun ?_
  refine Z ?_
  apply exP.mk
  exact rfl
  refine Z ?_
  iterate 3 refine tN (by first | omega | assumption | exact fun h => h (by assumption) | exact fun h => h rfl | exact fun h => h Iff.rfl) ?_
  iterate 2 refine tY (by first | omega | assumption | exact rfl | exact Iff.rfl) ?_
  refine drawP.mkS (Z (Z ?_))
  refine Z ?_
  apply exP.mk
  exact rfl
  apply exP.mk
  exact rfl
  apply exP.mk
  refine Z ?_
  exact rfl
  apply exP.mk
  exact rfl
  apply exP.mk
  refine Z ?_
  exact rfl
  apply exP.mk
  exact rfl
  apply exP.mk
  refine Z ?_
  exact rfl
  apply exP.mk
  exact rfl
  apply exP.mk
  iterate 2 refine Z ?_
  refine jnm (by omega) (by omega) ?_
  exact rfl
  apply exP.mk
  refine Z ?_
  exact rfl
  iterate 2 refine Z ?_
  refine gm (by omega) ?_
  refine Z ?_
  refine esetS ?_
  refine Z ?_
  refine tY (by first | omega | assumption | exact rfl | exact Iff.rfl) ?_
  rotate_left
  · refine doneV.mk [] [0, 1, 2, 3] rfl rfl ?_ ?_ ?_
    repeat' first | exact trivial | exact rfl | exact Iff.rfl | assumption | exact pureI | exact (show _ = _ by omega) | exact (show _ ≤ _ by omega) | exact (show _ < _ by omega) | exact (show ¬ _ by omega) | refine And.intro ?_ ?_
    all_goals first | exact pureY | exact pureSen | exact pureCar | exact pureI | exact senA | exact carA | skip
    exact (show _ ↔ _ from ⟨fun h => hm.2 ⟨ha, h⟩, fun h => (hm.1 h).2⟩)
  · refine doneV.mk [] [0, 1, 2, 3] rfl rfl ?_ ?_ ?_
    repeat' first | exact trivial | exact rfl | exact Iff.rfl | assumption | exact pureI | exact (show _ = _ by omega) | exact (show _ ≤ _ by omega) | exact (show _ < _ by omega) | exact (show ¬ _ by omega) | refine And.intro ?_ ?_
    all_goals first | exact pureY | exact pureSen | exact pureCar | exact pureI | exact senA | exact carA | skip
    exact (show _ ↔ _ from ⟨fun h => hm.2 ⟨ha, h⟩, fun h => (hm.1 h).2⟩)
theorem work_cN (y : Yd) (hg : good y) (k a b c d : Int) (hk : (k = 2 ∧ y.w.length = 1) ∨ ((k = 4 ∨ k = 5) ∧ ¬ (0 ≤ a ∧ a < (y.S.length : Int))) ∨ k < 1 ∨ 6 < k) : C 131 [.prow 0 0 0, .agg [i64 k, i64 a, i64 b, i64 c]] [yrow y.n y.b 1 2 3 d, row y.w, rowS y.S, rowK y.K] .ff [yrow y.n y.b 1 2 3 d, row y.w, rowS y.S, rowK y.K] false := by
  have hw1 : 1 ≤ (y.w.length : Int) ∧ (y.w.length : Int) ≤ 61 := hg.2.1.1
  have hS := hg.2.2.1.2
  have hK := hg.2.2.2.1.2
  refine mkC false false Try.func131 rfl ?_
  refine And.intro nofun ?_
  rcases hk with ⟨hk, hl⟩ | ⟨hk, ha⟩ | hk
  · refine Z ?_
    refine drawP.mk 13 (Z (Z (Z (Z ?_))))
    apply exP.mk
    refine Z ?_
    exact rfl
    apply exP.mk
    exact rfl
    apply exP.mk
    exact rfl
    apply exP.mk
    exact rfl
    refine twoP.mk (fun _ => ?_) (fun _ => ?_)
    apply exP.mk
    refine Z ?_
    exact rfl
    apply exP.mk
    exact rfl
    apply exP.mk
    exact rfl
    apply exP.mk
    refine Z ?_
    exact rfl
    apply exP.mk
    exact rfl
    apply exP.mk
    exact rfl
    apply exP.mk
    exact rfl
    apply exP.mk
    exact rfl
    refine drawP.mkS (Z (Z ?_))
    refine Z ?_
    apply exP.mk
    refine Z ?_
    exact rfl
    apply exP.mk
    exact rfl
    apply exP.mk
    exact rfl
    apply exP.mk
    exact rfl
    apply exP.mk
    refine Z ?_
    exact rfl
    apply exP.mk
    exact rfl
    apply exP.mk
    refine lm ?_
    exact rfl
    apply exP.mk
    refine nw (by omega) (by omega) ?_
    exact rfl
    refine callW.mk [] 5 _ _ _ (within_c _ _ _) rfl rfl trivial nofun ?_
    refine Z ?_
    apply exP.mk
    exact rfl
    refine Z ?_
    refine tN (by first | omega | assumption | exact fun h => h (by assumption) | exact fun h => h rfl | exact fun h => h Iff.rfl) ?_
    refine tY (by first | omega | assumption | exact rfl | exact Iff.rfl) ?_
    refine Z ?_
    refine lm ?_
    refine tY (by first | omega | assumption | exact rfl | exact Iff.rfl) ?_
    rotate_left
    apply exP.mk
    refine Z ?_
    exact rfl
    apply exP.mk
    exact rfl
    apply exP.mk
    exact rfl
    apply exP.mk
    exact rfl
    apply exP.mk
    exact rfl
    refine drawP.mkS (Z (Z ?_))
    refine Z ?_
    apply exP.mk
    refine Z ?_
    exact rfl
    apply exP.mk
    exact rfl
    apply exP.mk
    exact rfl
    apply exP.mk
    exact rfl
    apply exP.mk
    refine Z ?_
    exact rfl
    apply exP.mk
    exact rfl
    apply exP.mk
    refine lm ?_
    exact rfl
    apply exP.mk
    refine nw (by omega) (by omega) ?_
    exact rfl
    refine callW.mk [] 5 _ _ _ (within_c _ _ _) rfl rfl trivial nofun ?_
    refine Z ?_
    apply exP.mk
    exact rfl
    refine Z ?_
    refine tN (by first | omega | assumption | exact fun h => h (by assumption) | exact fun h => h rfl | exact fun h => h Iff.rfl) ?_
    refine tY (by first | omega | assumption | exact rfl | exact Iff.rfl) ?_
    refine Z ?_
    refine lm ?_
    refine tY (by first | omega | assumption | exact rfl | exact Iff.rfl) ?_
    rotate_left
    · refine doneV.mk [] [0, 1, 2, 3] rfl rfl ?_ ?_ ?_
      repeat' first | exact trivial | exact rfl | exact Iff.rfl | assumption | exact pureI | exact (show _ = _ by omega) | exact (show _ ≤ _ by omega) | exact (show _ < _ by omega) | exact (show ¬ _ by omega) | refine And.intro ?_ ?_
      all_goals first | exact pureY | exact pureSen | exact pureCar | exact pureI | exact senA | exact carA | skip
    · refine doneV.mk [] [0, 1, 2, 3] rfl rfl ?_ ?_ ?_
      repeat' first | exact trivial | exact rfl | exact Iff.rfl | assumption | exact pureI | exact (show _ = _ by omega) | exact (show _ ≤ _ by omega) | exact (show _ < _ by omega) | exact (show ¬ _ by omega) | refine And.intro ?_ ?_
      all_goals first | exact pureY | exact pureSen | exact pureCar | exact pureI | exact senA | exact carA | skip
  · rcases hk with hk | hk
    · refine Z ?_
      refine drawP.mk 13 (Z (Z (Z (Z ?_))))
      apply exP.mk
      refine Z ?_
      exact rfl
      apply exP.mk
      exact rfl
      apply exP.mk
      exact rfl
      apply exP.mk
      exact rfl
      refine twoP.mk (fun _ => ?_) (fun _ => ?_)
      apply exP.mk
      refine Z ?_
      exact rfl
      apply exP.mk
      exact rfl
      apply exP.mk
      exact rfl
      apply exP.mk
      refine Z ?_
      exact rfl
      apply exP.mk
      exact rfl
      apply exP.mk
      exact rfl
      apply exP.mk
      exact rfl
      apply exP.mk
      exact rfl
      refine drawP.mkS (Z (Z ?_))
      refine Z ?_
      apply exP.mk
      refine Z ?_
      exact rfl
      apply exP.mk
      exact rfl
      apply exP.mk
      exact rfl
      apply exP.mk
      exact rfl
      apply exP.mk
      refine Z ?_
      exact rfl
      apply exP.mk
      exact rfl
      apply exP.mk
      refine lm ?_
      exact rfl
      apply exP.mk
      refine nw (by omega) (by omega) ?_
      exact rfl
      refine callW.mk [] 5 _ _ _ (within_c _ _ _) rfl rfl trivial nofun ?_
      refine Z ?_
      apply exP.mk
      exact rfl
      refine Z ?_
      iterate 3 refine tN (by first | omega | assumption | exact fun h => h (by assumption) | exact fun h => h rfl | exact fun h => h Iff.rfl) ?_
      refine tY (by first | omega | assumption | exact rfl | exact Iff.rfl) ?_
      iterate 2 refine tN (by first | omega | assumption | exact fun h => h (by assumption) | exact fun h => h rfl | exact fun h => h Iff.rfl) ?_
      rotate_left
      apply exP.mk
      refine Z ?_
      exact rfl
      apply exP.mk
      exact rfl
      apply exP.mk
      exact rfl
      apply exP.mk
      exact rfl
      apply exP.mk
      exact rfl
      refine drawP.mkS (Z (Z ?_))
      refine Z ?_
      apply exP.mk
      refine Z ?_
      exact rfl
      apply exP.mk
      exact rfl
      apply exP.mk
      exact rfl
      apply exP.mk
      exact rfl
      apply exP.mk
      refine Z ?_
      exact rfl
      apply exP.mk
      exact rfl
      apply exP.mk
      refine lm ?_
      exact rfl
      apply exP.mk
      refine nw (by omega) (by omega) ?_
      exact rfl
      refine callW.mk [] 5 _ _ _ (within_c _ _ _) rfl rfl trivial nofun ?_
      refine Z ?_
      apply exP.mk
      exact rfl
      refine Z ?_
      iterate 3 refine tN (by first | omega | assumption | exact fun h => h (by assumption) | exact fun h => h rfl | exact fun h => h Iff.rfl) ?_
      refine tY (by first | omega | assumption | exact rfl | exact Iff.rfl) ?_
      iterate 2 refine tN (by first | omega | assumption | exact fun h => h (by assumption) | exact fun h => h rfl | exact fun h => h Iff.rfl) ?_
      rotate_left
      · refine doneV.mk [] [0, 1, 2, 3] rfl rfl ?_ ?_ ?_
        repeat' first | exact trivial | exact rfl | exact Iff.rfl | assumption | exact pureI | exact (show _ = _ by omega) | exact (show _ ≤ _ by omega) | exact (show _ < _ by omega) | exact (show ¬ _ by omega) | refine And.intro ?_ ?_
        all_goals first | exact pureY | exact pureSen | exact pureCar | exact pureI | exact senA | exact carA | skip
      · refine doneV.mk [] [0, 1, 2, 3] rfl rfl ?_ ?_ ?_
        repeat' first | exact trivial | exact rfl | exact Iff.rfl | assumption | exact pureI | exact (show _ = _ by omega) | exact (show _ ≤ _ by omega) | exact (show _ < _ by omega) | exact (show ¬ _ by omega) | refine And.intro ?_ ?_
        all_goals first | exact pureY | exact pureSen | exact pureCar | exact pureI | exact senA | exact carA | skip
    · refine Z ?_
      refine drawP.mk 13 (Z (Z (Z (Z ?_))))
      apply exP.mk
      refine Z ?_
      exact rfl
      apply exP.mk
      exact rfl
      apply exP.mk
      exact rfl
      apply exP.mk
      exact rfl
      refine twoP.mk (fun _ => ?_) (fun _ => ?_)
      apply exP.mk
      refine Z ?_
      exact rfl
      apply exP.mk
      exact rfl
      apply exP.mk
      exact rfl
      apply exP.mk
      refine Z ?_
      exact rfl
      apply exP.mk
      exact rfl
      apply exP.mk
      exact rfl
      apply exP.mk
      exact rfl
      apply exP.mk
      exact rfl
      refine drawP.mkS (Z (Z ?_))
      refine Z ?_
      apply exP.mk
      refine Z ?_
      exact rfl
      apply exP.mk
      exact rfl
      apply exP.mk
      exact rfl
      apply exP.mk
      exact rfl
      apply exP.mk
      refine Z ?_
      exact rfl
      apply exP.mk
      exact rfl
      apply exP.mk
      refine lm ?_
      exact rfl
      apply exP.mk
      refine nw (by omega) (by omega) ?_
      exact rfl
      refine callW.mk [] 5 _ _ _ (within_c _ _ _) rfl rfl trivial nofun ?_
      refine Z ?_
      apply exP.mk
      exact rfl
      refine Z ?_
      iterate 4 refine tN (by first | omega | assumption | exact fun h => h (by assumption) | exact fun h => h rfl | exact fun h => h Iff.rfl) ?_
      refine tY (by first | omega | assumption | exact rfl | exact Iff.rfl) ?_
      iterate 2 refine tN (by first | omega | assumption | exact fun h => h (by assumption) | exact fun h => h rfl | exact fun h => h Iff.rfl) ?_
      rotate_left
      apply exP.mk
      refine Z ?_
      exact rfl
      apply exP.mk
      exact rfl
      apply exP.mk
      exact rfl
      apply exP.mk
      exact rfl
      apply exP.mk
      exact rfl
      refine drawP.mkS (Z (Z ?_))
      refine Z ?_
      apply exP.mk
      refine Z ?_
      exact rfl
      apply exP.mk
      exact rfl
      apply exP.mk
      exact rfl
      apply exP.mk
      exact rfl
      apply exP.mk
      refine Z ?_
      exact rfl
      apply exP.mk
      exact rfl
      apply exP.mk
      refine lm ?_
      exact rfl
      apply exP.mk
      refine nw (by omega) (by omega) ?_
      exact rfl
      refine callW.mk [] 5 _ _ _ (within_c _ _ _) rfl rfl trivial nofun ?_
      refine Z ?_
      apply exP.mk
      exact rfl
      refine Z ?_
      iterate 4 refine tN (by first | omega | assumption | exact fun h => h (by assumption) | exact fun h => h rfl | exact fun h => h Iff.rfl) ?_
      refine tY (by first | omega | assumption | exact rfl | exact Iff.rfl) ?_
      iterate 2 refine tN (by first | omega | assumption | exact fun h => h (by assumption) | exact fun h => h rfl | exact fun h => h Iff.rfl) ?_
      rotate_left
      · refine doneV.mk [] [0, 1, 2, 3] rfl rfl ?_ ?_ ?_
        repeat' first | exact trivial | exact rfl | exact Iff.rfl | assumption | exact pureI | exact (show _ = _ by omega) | exact (show _ ≤ _ by omega) | exact (show _ < _ by omega) | exact (show ¬ _ by omega) | refine And.intro ?_ ?_
        all_goals first | exact pureY | exact pureSen | exact pureCar | exact pureI | exact senA | exact carA | skip
      · refine doneV.mk [] [0, 1, 2, 3] rfl rfl ?_ ?_ ?_
        repeat' first | exact trivial | exact rfl | exact Iff.rfl | assumption | exact pureI | exact (show _ = _ by omega) | exact (show _ ≤ _ by omega) | exact (show _ < _ by omega) | exact (show ¬ _ by omega) | refine And.intro ?_ ?_
        all_goals first | exact pureY | exact pureSen | exact pureCar | exact pureI | exact senA | exact carA | skip
  · refine Z ?_
    refine drawP.mk 13 (Z (Z (Z (Z ?_))))
    apply exP.mk
    refine Z ?_
    exact rfl
    apply exP.mk
    exact rfl
    apply exP.mk
    exact rfl
    apply exP.mk
    exact rfl
    refine twoP.mk (fun _ => ?_) (fun _ => ?_)
    apply exP.mk
    refine Z ?_
    exact rfl
    apply exP.mk
    exact rfl
    apply exP.mk
    exact rfl
    apply exP.mk
    refine Z ?_
    exact rfl
    apply exP.mk
    exact rfl
    apply exP.mk
    exact rfl
    apply exP.mk
    exact rfl
    apply exP.mk
    exact rfl
    refine drawP.mkS (Z (Z ?_))
    refine Z ?_
    apply exP.mk
    refine Z ?_
    exact rfl
    apply exP.mk
    exact rfl
    apply exP.mk
    exact rfl
    apply exP.mk
    exact rfl
    apply exP.mk
    refine Z ?_
    exact rfl
    apply exP.mk
    exact rfl
    apply exP.mk
    refine lm ?_
    exact rfl
    apply exP.mk
    refine nw (by omega) (by omega) ?_
    exact rfl
    refine callW.mk [] 5 _ _ _ (within_c _ _ _) rfl rfl trivial nofun ?_
    refine Z ?_
    apply exP.mk
    exact rfl
    refine Z ?_
    iterate 6 refine tN (by first | omega | assumption | exact fun h => h (by assumption) | exact fun h => h rfl | exact fun h => h Iff.rfl) ?_
    rotate_left
    apply exP.mk
    refine Z ?_
    exact rfl
    apply exP.mk
    exact rfl
    apply exP.mk
    exact rfl
    apply exP.mk
    exact rfl
    apply exP.mk
    exact rfl
    refine drawP.mkS (Z (Z ?_))
    refine Z ?_
    apply exP.mk
    refine Z ?_
    exact rfl
    apply exP.mk
    exact rfl
    apply exP.mk
    exact rfl
    apply exP.mk
    exact rfl
    apply exP.mk
    refine Z ?_
    exact rfl
    apply exP.mk
    exact rfl
    apply exP.mk
    refine lm ?_
    exact rfl
    apply exP.mk
    refine nw (by omega) (by omega) ?_
    exact rfl
    refine callW.mk [] 5 _ _ _ (within_c _ _ _) rfl rfl trivial nofun ?_
    refine Z ?_
    apply exP.mk
    exact rfl
    refine Z ?_
    iterate 6 refine tN (by first | omega | assumption | exact fun h => h (by assumption) | exact fun h => h rfl | exact fun h => h Iff.rfl) ?_
    rotate_left
    · refine doneV.mk [] [0, 1, 2, 3] rfl rfl ?_ ?_ ?_
      repeat' first | exact trivial | exact rfl | exact Iff.rfl | assumption | exact pureI | exact (show _ = _ by omega) | exact (show _ ≤ _ by omega) | exact (show _ < _ by omega) | exact (show ¬ _ by omega) | refine And.intro ?_ ?_
      all_goals first | exact pureY | exact pureSen | exact pureCar | exact pureI | exact senA | exact carA | skip
    · refine doneV.mk [] [0, 1, 2, 3] rfl rfl ?_ ?_ ?_
      repeat' first | exact trivial | exact rfl | exact Iff.rfl | assumption | exact pureI | exact (show _ = _ by omega) | exact (show _ ≤ _ by omega) | exact (show _ < _ by omega) | exact (show ¬ _ by omega) | refine And.intro ?_ ?_
      all_goals first | exact pureY | exact pureSen | exact pureCar | exact pureI | exact senA | exact carA | skip
end Sx
