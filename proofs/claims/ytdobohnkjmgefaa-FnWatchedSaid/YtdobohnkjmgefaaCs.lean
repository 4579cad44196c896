/- Contracts: what a job makes, said. -/
import Derived.Test.YtdobohnkjmgefaaCr
set_option linter.all false
namespace Sx
open Go Go.Proofs
set_option maxRecDepth 100000
set_option maxHeartbeats 4000000
set_option linter.unusedSimpArgs false
set_option linter.unusedSectionVars false
variable [Glb]
theorem l12Make_c (y : Yd) (hg : good y) (hy : fitY 1099511627776 y) (k a b c : Int) (hm : may y ⟨k, a, b, c⟩) : C 222 [yv y, .agg [i64 k, i64 a, i64 b, i64 c]] [] (.agg [i64 y.n, bv y.b, .loc 0, .loc 1, .loc 2, i64 y.c]) [row (made y ⟨k, a, b, c⟩).w, rowS (made y ⟨k, a, b, c⟩).S, rowK (made y ⟨k, a, b, c⟩).K] false := by
  have hw1 : 1 ≤ (y.w.length : Int) ∧ (y.w.length : Int) ≤ 61 := hg.2.1.1
  have hS := hg.2.2.1.2
  have hK := hg.2.2.2.1.2
  have hlt : y.w.length - 1 < y.w.length := by omega
  have hwg : y.w[y.w.length - 1]'hlt = y.w.getD (y.w.length - 1) 0 := by rw [List.getD_eq_getElem?_getD, List.getElem?_eq_getElem hlt]; rfl
  have hwb : 0 ≤ y.w.getD (y.w.length - 1) 0 ∧ y.w.getD (y.w.length - 1) 0 < y.n := by
    rw [← hwg]
    exact hg.2.1.2.1 _ (List.getElem_mem hlt)
  have hn : y.n ≤ 24 := hg.1.1.2.1
  refine mkC false false Try.func222 rfl ?_
  refine And.intro nofun ?_
  simp only [may] at hm
  rcases hm with ⟨hk, ha, hb, hc⟩ | ⟨hk, ha, hb, hc, hd⟩ | ⟨hk, ha⟩ | ⟨hk, ha, hb⟩ | ⟨hk, ha, hb, hc⟩ | hk
  · have hmd : made y ⟨k, a, b, c⟩ = { y with w := y.w ++ [y.w.getD (y.w.length - 1) 0 + a] } := by simp [made, hk]; omega
    rw [hmd]
    iterate 3 refine Z ?_
    refine callW.mk [] 3 _ _ _ (l12Own_c _ (by first | omega | assumption | (simp; omega) | (simp; done))) rfl rfl trivial nofun ?_
    iterate 6 refine Z ?_
    refine tY (by first | omega | assumption | exact rfl | exact Iff.rfl) ?_
    refine drawP.mkS (Z (Z ?_))
    refine Z ?_
    apply exP.mk
    refine Z ?_
    exact rfl
    apply exP.mk
    exact rfl
    apply exP.mk
    refine Z ?_
    exact rfl
    apply exP.mk
    exact rfl
    apply exP.mk
    refine Z ?_
    exact rfl
    apply exP.mk
    exact rfl
    apply exP.mk
    refine lm ?_
    exact rfl
    apply exP.mk
    refine nw (by omega) (by omega) ?_
    exact rfl
    apply exP.mk
    iterate 2 refine Z ?_
    refine jmm (by omega) (by omega) ?_
    exact rfl
    apply exP.mk
    refine gmv (by omega) hwg ?_
    exact rfl
    apply exP.mk
    refine Z ?_
    exact rfl
    apply exP.mk
    exact rfl
    apply exP.mk
    refine nw (by omega) (by omega) ?_
    exact rfl
    iterate 6 refine Z ?_
    refine And.intro ?_ ?_
    refine Z ?_
    exact rfl
    iterate 6 refine Z ?_
    refine lem1 (by omega) ?_
    refine ea ?_
    refine Z ?_
    apply exP.mk
    refine Z ?_
    exact rfl
    iterate 9 refine Z ?_
    rotate_left
    refine doneV.mk [] [8, 4, 5] rfl rfl ?_ ?_ ?_
    repeat' first | exact trivial | exact rfl | exact Iff.rfl | assumption | exact pureI | exact (show _ = _ by omega) | exact (show _ ≤ _ by omega) | exact (show _ < _ by omega) | exact (show ¬ _ by omega) | refine And.intro ?_ ?_
    all_goals first | exact pureI | exact pureSen | exact pureCar | exact senA | exact carA | skip
  · have hmd : made y ⟨k, a, b, c⟩ = { y with w := y.w.take (y.w.length - 1) } := by simp [made, hk]
    rw [hmd]
    iterate 3 refine Z ?_
    refine callW.mk [] 3 _ _ _ (l12Own_c _ (by first | omega | assumption | (simp; omega) | (simp; done))) rfl rfl trivial nofun ?_
    iterate 6 refine Z ?_
    refine tN (by first | omega | assumption | exact fun h => h (by assumption) | exact fun h => h rfl | exact fun h => h Iff.rfl) ?_
    refine tY (by first | omega | assumption | exact rfl | exact Iff.rfl) ?_
    iterate 2 refine Z ?_
    refine lm ?_
    refine nw (by omega) (by omega) ?_
    iterate 2 refine Z ?_
    refine jnm1 (by omega) (by omega) ?_
    iterate 9 refine Z ?_
    rotate_left
    refine doneV.cut (.res 2) ?_
    refine Z ?_
    refine er ?_
    rotate_left
    refine doneX.mk [] [7, 4, 5] rfl rfl ?_ ?_ ?_
    repeat' first | exact trivial | exact rfl | exact Iff.rfl | assumption | exact pureI | exact (show _ = _ by omega) | exact (show _ ≤ _ by omega) | exact (show _ < _ by omega) | exact (show ¬ _ by omega) | refine And.intro ?_ ?_
    all_goals first | exact pureI | exact pureSen | exact pureCar | exact senA | exact carA | skip
    exact takeW hw1.1
  · have hmd : made y ⟨k, a, b, c⟩ = { y with S := y.S ++ [(a, b)] } := by simp [made, hk]
    rw [hmd]
    iterate 3 refine Z ?_
    refine callW.mk [] 3 _ _ _ (l12Own_c _ (by first | omega | assumption | (simp; omega) | (simp; done))) rfl rfl trivial nofun ?_
    iterate 6 refine Z ?_
    iterate 2 refine tN (by first | omega | assumption | exact fun h => h (by assumption) | exact fun h => h rfl | exact fun h => h Iff.rfl) ?_
    refine tY (by first | omega | assumption | exact rfl | exact Iff.rfl) ?_
    iterate 20 refine Z ?_
    refine lem1 (by omega) ?_
    refine er ?_
    iterate 9 refine Z ?_
    rotate_left
    refine doneV.mk [] [3, 8, 5] rfl rfl ?_ ?_ ?_
    repeat' first | exact trivial | exact rfl | exact Iff.rfl | assumption | exact pureI | exact (show _ = _ by omega) | exact (show _ ≤ _ by omega) | exact (show _ < _ by omega) | exact (show ¬ _ by omega) | refine And.intro ?_ ?_
    all_goals first | exact pureI | exact pureSen | exact pureCar | exact senA | exact carA | skip
  · have hmd : made y ⟨k, a, b, c⟩ = { y with S := y.S.set a.toNat (b, (y.S.getD a.toNat (0, 0)).2) } := by simp [made, hk]
    rw [hmd]
    iterate 3 refine Z ?_
    refine callW.mk [] 3 _ _ _ (l12Own_c _ (by first | omega | assumption | (simp; omega) | (simp; done))) rfl rfl trivial nofun ?_
    iterate 6 refine Z ?_
    iterate 3 refine tN (by first | omega | assumption | exact fun h => h (by assumption) | exact fun h => h rfl | exact fun h => h Iff.rfl) ?_
    refine tY (by first | omega | assumption | exact rfl | exact Iff.rfl) ?_
    iterate 5 refine Z ?_
    refine jnm (by omega) (by omega) ?_
    iterate 3 refine Z ?_
    refine gm (by omega) ?_
    refine Z ?_
    refine esetS ?_
    iterate 4 refine Z ?_
    rotate_left
    refine doneV.mk [] [3, 4, 5] rfl rfl ?_ ?_ ?_
    repeat' first | exact trivial | exact rfl | exact Iff.rfl | assumption | exact pureI | exact (show _ = _ by omega) | exact (show _ ≤ _ by omega) | exact (show _ < _ by omega) | exact (show ¬ _ by omega) | refine And.intro ?_ ?_
    all_goals first | exact pureI | exact pureSen | exact pureCar | exact senA | exact carA | skip
    · exact congrArg (fun x : Int × Int => (y.S.set a.toNat (b, x.2)).map sen) (show y.S[a.toNat]'(by omega) = y.S.getD a.toNat (0, 0) by rw [List.getD_eq_getElem?_getD, List.getElem?_eq_getElem (by omega)]; rfl)
  · have hmd : made y ⟨k, a, b, c⟩ = { y with S := y.S.eraseIdx a.toNat } := by simp [made, hk]
    rw [hmd]
    obtain ⟨p, rfl⟩ : ∃ p : Nat, a = p := ⟨a.toNat, by omega⟩
    iterate 3 refine Z ?_
    refine callW.mk [] 3 _ _ _ (l12Own_c _ (by first | omega | assumption | (simp; omega) | (simp; done))) rfl rfl trivial nofun ?_
    iterate 6 refine Z ?_
    iterate 4 refine tN (by first | omega | assumption | exact fun h => h (by assumption) | exact fun h => h rfl | exact fun h => h Iff.rfl) ?_
    refine tY (by first | omega | assumption | exact rfl | exact Iff.rfl) ?_
    refine drawP.mkS (Z (Z ?_))
    refine Z ?_
    apply exP.mk
    refine Z ?_
    exact rfl
    apply exP.mk
    exact rfl
    apply exP.mk
    refine Z ?_
    exact rfl
    apply exP.mk
    exact rfl
    apply exP.mk
    iterate 2 refine Z ?_
    refine jkm1 (by omega) ?_
    exact rfl
    apply exP.mk
    refine Z ?_
    exact rfl
    apply exP.mk
    exact rfl
    apply exP.mk
    refine Z ?_
    exact rfl
    apply exP.mk
    exact rfl
    apply exP.mk
    refine nw (by omega) (by omega) ?_
    exact rfl
    apply exP.mk
    iterate 2 refine Z ?_
    refine jpm1 (by omega) ?_
    exact rfl
    iterate 6 refine Z ?_
    refine er ?_
    refine lenP.mk _ rfl ?_
    refine leP.mk (by first | (simp [big]; omega) | (simp [big]; done)) ?_
    refine er ?_
    refine Z ?_
    apply exP.mk
    refine Z ?_
    exact rfl
    iterate 9 refine Z ?_
    rotate_left
    refine doneV.cut (.res 3) ?_
    refine Z ?_
    refine er ?_
    rotate_left
    refine doneX.mk [] [3, 7, 5] rfl rfl ?_ ?_ ?_
    repeat' first | exact trivial | exact rfl | exact Iff.rfl | assumption | exact pureI | exact (show _ = _ by omega) | exact (show _ ≤ _ by omega) | exact (show _ < _ by omega) | exact (show ¬ _ by omega) | refine And.intro ?_ ?_
    all_goals first | exact pureI | exact pureSen | exact pureCar | exact senA | exact carA | skip
    · exact del_row2 (show p < y.S.length by omega) (del_num (by omega))
  · have hmd : made y ⟨k, a, b, c⟩ = { y with K := y.K ++ [(a, b, c)] } := by simp [made, hk]
    rw [hmd]
    iterate 3 refine Z ?_
    refine callW.mk [] 3 _ _ _ (l12Own_c _ (by first | omega | assumption | (simp; omega) | (simp; done))) rfl rfl trivial nofun ?_
    iterate 6 refine Z ?_
    iterate 5 refine tN (by first | omega | assumption | exact fun h => h (by assumption) | exact fun h => h rfl | exact fun h => h Iff.rfl) ?_
    refine tY (by first | omega | assumption | exact rfl | exact Iff.rfl) ?_
    iterate 24 refine Z ?_
    refine lem1 (by omega) ?_
    refine er ?_
    iterate 9 refine Z ?_
    rotate_left
    refine doneV.mk [] [3, 4, 8] rfl rfl ?_ ?_ ?_
    repeat' first | exact trivial | exact rfl | exact Iff.rfl | assumption | exact pureI | exact (show _ = _ by omega) | exact (show _ ≤ _ by omega) | exact (show _ < _ by omega) | exact (show ¬ _ by omega) | refine And.intro ?_ ?_
    all_goals first | exact pureI | exact pureSen | exact pureCar | exact senA | exact carA | skip
end Sx
