/- Contracts: the law of the time of an election. -/
import Derived.Test.YteaabofmnlbmkaaGreatSyC
import Derived.Test.YteaabofmnlbmkaaGreatCSa
import Derived.Test.YteaabofmnlbmkaaGreatCb
set_option linter.all false
namespace Sx
open Go Go.Proofs
set_option maxRecDepth 100000
set_option maxHeartbeats 8000000
set_option linter.unusedSimpArgs false
set_option linter.unusedSectionVars false
variable [Glb]
theorem gapT_c (n x y : Int) (hn : 0 ≤ n ∧ n ≤ 1099511627776) (hx : -1099511627776 ≤ x ∧ x ≤ 1099511627776) (hy : -1099511627776 ≤ y ∧ y ≤ 1099511627776) : C 65 [.agg [i64 n, .tt], i64 x, i64 y] [] (i64 (gap n true x y)) [] false := by
  refine mkC false false Tryz.func65 rfl ?_; refine And.intro nofun ?_; refine Z ?_; iterate 2 refine nw (by omega) (by omega) ?_
  refine nr ?_; iterate 2 refine Z ?_
  refine nw (by omega) (by omega) ?_; refine nr ?_; rotate_left; refine dv0 rfl ?_
  exact ⟨rfl, rfl⟩
theorem l2GapT_c (n x y : Int) (hn : 0 ≤ n ∧ n ≤ 1099511627776) (hx : -1099511627776 ≤ x ∧ x ≤ 1099511627776) (hy : -1099511627776 ≤ y ∧ y ≤ 1099511627776) : C 67 [.agg [i64 n, .tt], i64 x, i64 y] [] (i64 (gap n true x y)) [] false := by
  refine mkC false false Tryz.func67 rfl ?_; refine And.intro nofun ?_; refine Z ?_; iterate 2 refine nw (by omega) (by omega) ?_
  refine callW.mk [] 1 _ _ _ (most_c _ _) rfl rfl trivial nofun ?_; iterate 2 refine Z ?_
  refine nw (by omega) (by omega) ?_; refine callW.mk [] 1 _ _ _ (least_c _ _) rfl rfl trivial nofun ?_; rotate_left; refine dv0 rfl ?_
  exact ⟨rfl, rfl⟩
/-- The greatest gap to a place among the first k robots. -/
def farK (n : Int) (l : List Int) (p : Int) : Nat → Int
  | 0 => 0
  | k + 1 => max (farK n l p k) (gap n true (l.getD k 0) p)
theorem farK_bd {n : Int} {l : List Int} {p : Int} (h : inR n l) (hp : 0 ≤ p ∧ p < n) : ∀ {k : Nat}, k ≤ l.length → 0 ≤ farK n l p k ∧ farK n l p k ≤ n
  | 0, _ => ⟨Int.le_refl _, by show (0 : Int) ≤ n; omega⟩
  | k + 1, hk => by
    have h1 := farK_bd (k := k) h hp (by omega)
    have h2 := h _ (List.getElem_mem (show k < l.length by omega))
    have h3 := gap_bd (b := true) h2 hp
    show 0 ≤ max (farK n l p k) (gap n true (l.getD k 0) p) ∧ max (farK n l p k) (gap n true (l.getD k 0) p) ≤ n
    rw [elI_get (by omega)]
    omega
noncomputable def etR (n : Int) (l : List Int) : Int := if crowd n l ∧ 0 ≤ elI n l then farK n l (epR n l) l.length else 0
theorem et_yes {n : Int} {l : List Int} (h : crowd n l ∧ 0 ≤ elI n l) : etR n l = farK n l (epR n l) l.length := if_pos h
theorem et_no {n : Int} {l : List Int} (h : ¬ (crowd n l ∧ 0 ≤ elI n l)) : etR n l = 0 := if_neg h
theorem epR_in {n : Int} {l : List Int} (h : crowd n l ∧ 0 ≤ elI n l) : 0 ≤ epR n l ∧ epR n l < n := by
  have hb := elI_bd n l
  have hr : inR n l := h.1.2.1
  rw [ep_yes h, elI_get (by omega)]
  exact hr _ (List.getElem_mem _)
theorem ElectTime_c (n : Int) (l : List Int) (hl : l.length ≤ 1099511627776) : C 25 [.agg [i64 n, ints l]] [] (.tuple [i64 (etR n l), pr (crowd n l ∧ 0 ≤ elI n l)]) [] false := by
  refine mkC false false Tryz.func25 rfl ?_; refine And.intro nofun ?_
  by_cases h : crowd n l ∧ 0 ≤ elI n l
  · have hp := epR_in h
    have hn := h.1.1.1
    have hl2 := h.1.1.2
    have hr : inR n l := h.1.2.1
    rw [et_yes h]
    refine Z ?_; refine callW.mk [] 1 _ _ _ (ElectPlace_c _ _ oka) rfl rfl trivial nofun ?_; refine tN okn ?_; refine Z ?_; refine lm ?_; rotate_left; refine loop_up (β := Nat) (fun k => [(6, i64 (farK n l (epR n l) k)), (19, i64 k)]) (fun k => []) [] (fun k => k ≤ l.length) (fun k => l.length - k) (0) ?_ ?_ ?_
    · exact Nat.zero_le _
    · refine weak.mk [] [0] rfl rfl ?_ ?_
      repeat' first | exact trivial | exact rfl | exact Iff.rfl | assumption | exact pureI | exact (show _ = _ by omega) | exact (show _ ≤ _ by omega) | exact (show _ < _ by omega) | exact (show ¬ _ by omega) | refine And.intro ?_ ?_
    · rintro k hk R hR
      have hb := farK_bd hr hp hk
      by_cases hkl : k < l.length
      · have h2 := hr _ (List.getElem_mem hkl)
        have h3 := gap_bd (b := true) h2 hp
        have hq : farK n l (epR n l) (k + 1) = max (farK n l (epR n l) k) (gap n true l[k] (epR n l)) := by
          show max _ (gap n true (l.getD k 0) _) = _
          rw [elI_get hkl]
        refine tY oky ?_; iterate 2 refine Z ?_
        refine jkm (by omega) ?_; refine gm (by omega) ?_; iterate 8 refine Z ?_
        refine callW.mk [] 1 _ _ _ (gapT_c _ _ _ oka oka oka) rfl rfl trivial nofun ?_; refine nr ?_; refine nw (by omega) (by omega) ?_; rotate_left; refine hR (k + 1) _ _ ?_ ?_; rotate_left; refine weak.mk [] [0] rfl rfl ?_ ?_
        repeat' first | exact trivial | exact rfl | exact Iff.rfl | assumption | exact pureI | exact (show _ = _ by omega) | exact (show _ ≤ _ by omega) | exact (show _ < _ by omega) | exact (show ¬ _ by omega) | refine And.intro ?_ ?_
        rotate_right
        exact ⟨by omega, by omega⟩
      · have hke : k = l.length := by omega
        rw [hke]
        refine tN okn ?_; rotate_left; refine doneV.mk [] [] rfl rfl ?_ ?_ ?_
        repeat' first | exact trivial | exact rfl | exact Iff.rfl | assumption | exact pureI | exact (show _ = _ by omega) | exact (show _ ≤ _ by omega) | exact (show _ < _ by omega) | exact (show ¬ _ by omega) | refine And.intro ?_ ?_
        all_goals (first | exact h | skip)
  · rw [et_no h]
    refine Z ?_; refine callW.mk [] 1 _ _ _ (ElectPlace_c _ _ oka) rfl rfl trivial nofun ?_; refine tY oky ?_; rotate_left; refine doneV.mk [] [] rfl rfl ?_ ?_ ?_
    repeat' first | exact trivial | exact rfl | exact Iff.rfl | assumption | exact pureI | exact (show _ = _ by omega) | exact (show _ ≤ _ by omega) | exact (show _ < _ by omega) | exact (show ¬ _ by omega) | refine And.intro ?_ ?_
    all_goals (first | exact h | skip)
theorem sElectTime_c (n : Int) (l : List Int) (hl : l.length ≤ 1099511627776) : C 26 [.agg [i64 n, ints l]] [] (.tuple [i64 (etR n l), pr (crowd n l ∧ 0 ≤ elI n l)]) [] false := by
  refine mkC false false Tryz.func26 rfl ?_; refine And.intro nofun ?_
  by_cases h : crowd n l ∧ 0 ≤ elI n l
  · have hp := epR_in h
    have hn := h.1.1.1
    have hl2 := h.1.1.2
    have hr : inR n l := h.1.2.1
    rw [et_yes h]
    refine Z ?_; refine callW.mk [] 1 _ _ _ (sElectPlace_c _ _ oka) rfl rfl trivial nofun ?_; refine tN okn ?_; rotate_left; refine loop_up (β := Nat) (fun k => [(6, i64 (farK n l (epR n l) k)), (7, i64 k)]) (fun k => []) [] (fun k => k ≤ l.length) (fun k => l.length - k) (0) ?_ ?_ ?_
    · exact Nat.zero_le _
    · refine weak.mk [] [0] rfl rfl ?_ ?_
      repeat' first | exact trivial | exact rfl | exact Iff.rfl | assumption | exact pureI | exact (show _ = _ by omega) | exact (show _ ≤ _ by omega) | exact (show _ < _ by omega) | exact (show ¬ _ by omega) | refine And.intro ?_ ?_
    · rintro k hk R hR
      have hb := farK_bd hr hp hk
      by_cases hkl : k < l.length
      · have h2 := hr _ (List.getElem_mem hkl)
        have h3 := gap_bd (b := true) h2 hp
        have hq : farK n l (epR n l) (k + 1) = max (farK n l (epR n l) k) (gap n true l[k] (epR n l)) := by
          show max _ (gap n true (l.getD k 0) _) = _
          rw [elI_get hkl]
        refine Z ?_; refine lm ?_; refine tY oky ?_; refine drawP.mkS (Z (Z ?_)); refine Z ?_
        apply exP.mk
        exact rfl
        apply exP.mk
        refine Z ?_
        exact rfl
        apply exP.mk
        exact rfl
        apply exP.mk
        iterate 7 refine Z ?_
        exact rfl
        apply exP.mk
        refine Z ?_
        exact rfl
        apply exP.mk
        exact rfl
        apply exP.mk
        exact rfl
        apply exP.mk
        iterate 2 refine Z ?_
        refine jkm (by omega) ?_
        exact rfl
        apply exP.mk
        refine gm (by omega) ?_
        exact rfl
        apply exP.mk
        exact rfl
        refine callW.mk [] 1 _ _ _ (l2GapT_c _ _ _ oka oka oka) rfl rfl trivial nofun ?_; iterate 2 refine Z ?_
        refine callW.mk [] 1 _ _ _ (most_c _ _) rfl rfl trivial nofun ?_; refine Z ?_
        apply exP.mk
        exact rfl
        refine nw (by omega) (by omega) ?_; rotate_left; refine hR (k + 1) _ _ ?_ ?_; rotate_left; refine weak.mk [] [0] rfl rfl ?_ ?_
        repeat' first | exact trivial | exact rfl | exact Iff.rfl | assumption | exact pureI | exact (show _ = _ by omega) | exact (show _ ≤ _ by omega) | exact (show _ < _ by omega) | exact (show ¬ _ by omega) | refine And.intro ?_ ?_
        rotate_right
        exact ⟨by omega, by omega⟩
      · have hke : k = l.length := by omega
        rw [hke]
        refine Z ?_; refine lm ?_; refine tN okn ?_; rotate_left; refine doneV.mk [] [] rfl rfl ?_ ?_ ?_
        repeat' first | exact trivial | exact rfl | exact Iff.rfl | assumption | exact pureI | exact (show _ = _ by omega) | exact (show _ ≤ _ by omega) | exact (show _ < _ by omega) | exact (show ¬ _ by omega) | refine And.intro ?_ ?_
        all_goals (first | exact h | skip)
  · rw [et_no h]
    refine Z ?_; refine callW.mk [] 1 _ _ _ (sElectPlace_c _ _ oka) rfl rfl trivial nofun ?_; refine tY oky ?_; rotate_left; refine doneV.mk [] [] rfl rfl ?_ ?_ ?_
    repeat' first | exact trivial | exact rfl | exact Iff.rfl | assumption | exact pureI | exact (show _ = _ by omega) | exact (show _ ≤ _ by omega) | exact (show _ < _ by omega) | exact (show ¬ _ by omega) | refine And.intro ?_ ?_
    all_goals (first | exact h | skip)
end Sx
