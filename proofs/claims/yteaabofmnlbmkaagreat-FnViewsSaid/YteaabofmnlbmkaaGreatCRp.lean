/- Contracts: ranks, of the reference. -/
import Derived.Test.YteaabofmnlbmkaaGreatSyC
import Derived.Test.YteaabofmnlbmkaaGreatCRo
import Derived.Test.YteaabofmnlbmkaaGreatMxA
set_option linter.all false
namespace Sx
open Go Go.Proofs
set_option maxRecDepth 100000
set_option maxHeartbeats 16000000
set_option linter.unusedSimpArgs false
set_option linter.unusedSectionVars false
variable [Glb]
theorem put_row (D : List (List Int)) (v : List Int) (j : Nat) : List.take (j - 0) (List.drop 0 (List.map ints D)) ++ [AV.sl 1 (List.map i64 v)] ++ List.take ((List.map ints D).length - j) (List.drop j (List.map ints D)) = (D.take j ++ [v] ++ D.drop j).map ints := by
  rw [List.map_append, List.map_append, List.map_take, List.map_drop, Nat.sub_zero, List.drop_zero, List.take_of_length_le (l := List.drop j (List.map ints D)) (by rw [List.length_drop]; exact Nat.le_refl _)]
  rfl
theorem put_inv {V : Nat → List Int} {D : List (List Int)} {v : List Int} {k j n : Nat} (hr : risen V D k) (hv : V k = v) (hkn : k < n) (hD : D.length ≤ k) (hj : j ≤ D.length) (h1 : ∀ y ∈ D.take j, cmpL y v < 0) (h2 : ∀ y ∈ D.drop j, cmpL v y < 0) :
    (k + 1 ≤ n ∧ (D.take j ++ [v] ++ D.drop j).length ≤ k + 1 ∧ risen V (D.take j ++ [v] ++ D.drop j) (k + 1)) ∧ n - (k + 1) < n - k :=
  ⟨⟨hkn, by simp only [List.length_append, List.length_take, List.length_drop, List.length_singleton]; omega, risen_put hr hv h1 h2⟩, by omega⟩
theorem l10Ranks_c (n : Int) (l : List Int) (hc : crowd n l) : C 48 [.agg [i64 n, ints l]] [] (.loc 0) [row (ranksL n l)] false := by
  have hn := hc.1.1
  have hl := hc.1.2
  refine mkC false true Tryz.func48 rfl ?_; refine And.intro (fun _ => rfl) ?_; iterate 5 refine Z ?_
  rotate_left; refine loop_up (β := Nat × List (List Int)) (fun (k, D) => [(3, .loc 1), (5, i64 k)]) (fun (k, D) => [(1, rowI D)]) [1] (fun (k, D) => k ≤ l.length ∧ D.length ≤ k ∧ risen (viewL n l) D k) (fun (k, D) => l.length - k) ((0, [])) ?_ ?_ ?_
  · exact ⟨Nat.zero_le _, Nat.le_refl _, risen_zero _⟩
  · refine weak.mk [1] [0, 1] rfl rfl ?_ ?_
    repeat' first | exact trivial | exact rfl | exact Iff.rfl | assumption | exact pureI | exact (show _ = _ by omega) | exact (show _ ≤ _ by omega) | exact (show _ < _ by omega) | exact (show ¬ _ by omega) | refine And.intro ?_ ?_
  · rintro ⟨k, D⟩ ⟨hk, hD, hr⟩ R hR
    have hx := risen_len hr
    by_cases hkl : k < l.length
    · obtain ⟨v, hv⟩ : ∃ v, viewL n l k = v := ⟨_, rfl⟩
      have hvl : v.length = l.length := by
        rw [← hv]; exact viewL_len n l k
      refine Z ?_; refine lm ?_; refine tY oky ?_; refine callW.mk [] 2 _ _ _ (l10View_c _ _ (by first | omega | assumption | (simp; omega) | (simp; done) | exact trivial | exact hx _ (List.getElem_mem _)) _ (by first | omega | assumption | (simp; omega) | (simp; done) | exact trivial | exact hx _ (List.getElem_mem _))) rfl rfl trivial nofun ?_; rotate_left
      rw [hv]
      refine loop_up (β := Nat) (fun j => [(8, i64 j)]) (fun j => []) [] (fun j => j ≤ D.length ∧ ∀ y ∈ D.take j, cmpL y v < 0) (fun j => D.length - j) (0) ?_ ?_ ?_
      · exact ⟨Nat.zero_le _, fun y hy => by simp at hy⟩
      · refine weak.mk [] [0, 1, 2] rfl rfl ?_ ?_
        repeat' first | exact trivial | exact rfl | exact Iff.rfl | assumption | exact pureI | exact (show _ = _ by omega) | exact (show _ ≤ _ by omega) | exact (show _ < _ by omega) | exact (show ¬ _ by omega) | refine And.intro ?_ ?_
      · rintro j ⟨hj, hlt⟩ R2 hR2
        by_cases hjD : j < D.length
        · have e1 := hx _ (List.getElem_mem hjD)
          by_cases c1 : cmpL D[j] v < 0
          · refine lm ?_
            refine tY oky ?_; iterate 2 refine Z ?_
            refine jkm (by omega) ?_; refine gm (by omega) ?_; refine callW.mk [] 3 _ _ _ (l10Less_c _ _ (by first | omega | assumption | (simp; omega) | (simp; done) | exact trivial | exact hx _ (List.getElem_mem _) | exact hlt _ (List.getElem_mem _)) (by first | omega | assumption | (simp; omega) | (simp; done) | exact trivial | exact hx _ (List.getElem_mem _) | exact hlt _ (List.getElem_mem _))) rfl rfl trivial nofun ?_; refine tY oky ?_; refine nw (by omega) (by omega) ?_; rotate_left; refine hR2 (j + 1) _ _ ?_ ?_; rotate_left; refine weak.mk [] [0, 1, 2] rfl rfl ?_ ?_
            repeat' first | exact trivial | exact rfl | exact Iff.rfl | assumption | exact pureI | exact (show _ = _ by omega) | exact (show _ ≤ _ by omega) | exact (show _ < _ by omega) | exact (show ¬ _ by omega) | refine And.intro ?_ ?_
            rotate_right
            exact ⟨⟨by omega, (all_take (by omega)).2 ⟨hlt, c1⟩⟩, by omega⟩
          · by_cases c2 : D[j] = v
            · refine lm ?_
              refine tY oky ?_; iterate 2 refine Z ?_
              refine jkm (by omega) ?_; refine gmv (by omega) c2 ?_; refine callW.mk [] 3 _ _ _ (l10Less_c _ _ (by first | omega | assumption | (simp; omega) | (simp; done) | exact trivial | exact hx _ (List.getElem_mem _) | exact hlt _ (List.getElem_mem _)) (by first | omega | assumption | (simp; omega) | (simp; done) | exact trivial | exact hx _ (List.getElem_mem _) | exact hlt _ (List.getElem_mem _))) rfl rfl trivial nofun ?_; refine twoP.mk (fun _ => ?_) (fun _ => ?_); refine nw (by omega) (by omega) ?_; rotate_left; refine lm ?_; refine tN okn ?_; iterate 2 refine Z ?_
              refine jkm (by omega) ?_; refine gmv (by omega) c2 ?_; refine callW.mk [] 3 _ _ _ (l1Same_c _ _ (by first | omega | assumption | (simp; omega) | (simp; done) | exact trivial | exact hx _ (List.getElem_mem _) | exact hlt _ (List.getElem_mem _)) (by first | omega | assumption | (simp; omega) | (simp; done) | exact trivial | exact hx _ (List.getElem_mem _) | exact hlt _ (List.getElem_mem _))) rfl rfl trivial nofun ?_; refine tN okn ?_; refine nw (by omega) (by omega) ?_; rotate_left
              · rename_i c3
                rw [cmpL_self] at c3
                exact absurd c3 (by decide)
              · refine hR ((k + 1, D)) _ _ ?_ ?_
                rotate_left; refine weak.mk [] [0, 1] rfl rfl ?_ ?_
                repeat' first | exact trivial | exact rfl | exact Iff.rfl | assumption | exact pureI | exact (show _ = _ by omega) | exact (show _ ≤ _ by omega) | exact (show _ < _ by omega) | exact (show ¬ _ by omega) | refine And.intro ?_ ?_
                rotate_right
                exact ⟨⟨by omega, by omega, risen_in hr hv (c2 ▸ List.getElem_mem hjD)⟩, by show l.length - (k + 1) < l.length - k; omega⟩
            · refine lm ?_
              refine tY oky ?_; iterate 2 refine Z ?_
              refine jkm (by omega) ?_; refine gm (by omega) ?_; refine callW.mk [] 3 _ _ _ (l10Less_c _ _ (by first | omega | assumption | (simp; omega) | (simp; done) | exact trivial | exact hx _ (List.getElem_mem _) | exact hlt _ (List.getElem_mem _)) (by first | omega | assumption | (simp; omega) | (simp; done) | exact trivial | exact hx _ (List.getElem_mem _) | exact hlt _ (List.getElem_mem _))) rfl rfl trivial nofun ?_; refine tN okn ?_; refine lm ?_; refine tN okn ?_; iterate 2 refine Z ?_
              refine jkm (by omega) ?_; refine gm (by omega) ?_; refine callW.mk [] 3 _ _ _ (l1Same_c _ _ (by first | omega | assumption | (simp; omega) | (simp; done) | exact trivial | exact hx _ (List.getElem_mem _) | exact hlt _ (List.getElem_mem _)) (by first | omega | assumption | (simp; omega) | (simp; done) | exact trivial | exact hx _ (List.getElem_mem _) | exact hlt _ (List.getElem_mem _))) rfl rfl trivial nofun ?_; refine tY oky ?_; refine drawP.mkS (Z (Z ?_)); refine Z ?_
              apply exP.mk
              exact rfl
              apply exP.mk
              exact rfl
              apply exP.mk
              iterate 2 refine Z ?_
              refine jkm1 (by omega) ?_
              exact rfl
              apply exP.mk
              exact rfl
              apply exP.mk
              exact rfl
              apply exP.mk
              exact rfl
              apply exP.mk
              iterate 2 refine Z ?_
              refine jkm1 (by omega) ?_
              exact rfl
              refine BothP.mk ?_ ?_; iterate 5 refine Z ?_
              refine And.intro ?_ ?_; iterate 2 refine Z ?_
              refine jkm1 (by omega) ?_
              exact rfl
              iterate 3 refine Z ?_
              refine And.intro ?_ ?_; iterate 2 refine Z ?_
              refine jkm1 (by omega) ?_
              exact rfl
              refine BothP.mk ?_ ?_; iterate 4 refine Z ?_
              refine er ?_; refine leP.mk (by first | (simp [big]; omega) | (simp [big]; done)) ?_; iterate 4 refine Z ?_
              refine And.intro ?_ ?_; iterate 2 refine Z ?_
              refine jkm1 (by omega) ?_
              exact rfl
              iterate 5 refine Z ?_
              refine And.intro trivial ?_; iterate 3 refine Z ?_
              refine And.intro ?_ ?_; iterate 2 refine Z ?_
              refine jkm1 (by omega) ?_
              exact rfl
              iterate 5 refine Z ?_
              refine leP.mk (by first | (simp [big]; omega) | (simp [big]; done)) ?_; refine er ?_; iterate 3 refine Z ?_
              refine And.intro ?_ ?_; iterate 2 refine Z ?_
              refine jkm1 (by omega) ?_
              exact rfl
              iterate 5 refine Z ?_
              refine er ?_; refine leP.mk (by first | (simp [big]; omega) | (simp [big]; done)) ?_; refine er ?_; refine Z ?_
              apply exP.mk
              exact rfl
              refine nw (by omega) (by omega) ?_; rotate_left; iterate 5 refine Z ?_
              refine And.intro trivial ?_; iterate 3 refine Z ?_
              refine And.intro ?_ ?_; iterate 2 refine Z ?_
              refine jkm1 (by omega) ?_
              exact rfl
              iterate 2 refine Z ?_
              refine And.intro ?_ ?_; iterate 2 refine Z ?_
              refine jkm1 (by omega) ?_
              exact rfl
              iterate 4 refine Z ?_
              refine er ?_; refine leP.mk (by first | (simp [big]; omega) | (simp [big]; done)) ?_; iterate 3 refine Z ?_
              refine And.intro ?_ ?_; iterate 2 refine Z ?_
              refine jkm1 (by omega) ?_
              exact rfl
              iterate 5 refine Z ?_
              refine leP.mk (by first | (simp [big]; omega) | (simp [big]; done)) ?_; refine er ?_; iterate 3 refine Z ?_
              refine And.intro ?_ ?_; iterate 2 refine Z ?_
              refine jkm1 (by omega) ?_
              exact rfl
              iterate 5 refine Z ?_
              refine er ?_; refine leP.mk (by first | (simp [big]; omega) | (simp [big]; done)) ?_; refine er ?_; refine Z ?_
              apply exP.mk
              exact rfl
              refine nw (by omega) (by omega) ?_; rotate_left; iterate 5 refine Z ?_
              refine And.intro trivial ?_; iterate 3 refine Z ?_
              refine And.intro ?_ ?_; iterate 2 refine Z ?_
              refine jkm1 (by omega) ?_
              exact rfl
              iterate 2 refine Z ?_
              refine And.intro ?_ ?_; iterate 2 refine Z ?_
              refine jkm1 (by omega) ?_
              exact rfl
              iterate 5 refine Z ?_
              refine And.intro ?_ ?_; iterate 2 refine Z ?_
              refine jkm1 (by omega) ?_
              exact rfl
              iterate 2 refine Z ?_
              refine And.intro ?_ ?_; iterate 2 refine Z ?_
              refine jkm1 (by omega) ?_
              exact rfl
              iterate 4 refine Z ?_
              refine er ?_; refine leP.mk (by first | (simp [big]; omega) | (simp [big]; done)) ?_; iterate 3 refine Z ?_
              refine And.intro ?_ ?_; iterate 2 refine Z ?_
              refine jkm1 (by omega) ?_
              exact rfl
              iterate 5 refine Z ?_
              refine leP.mk (by first | (simp [big]; omega) | (simp [big]; done)) ?_; refine er ?_; iterate 3 refine Z ?_
              refine And.intro ?_ ?_; iterate 2 refine Z ?_
              refine jkm1 (by omega) ?_
              exact rfl
              iterate 5 refine Z ?_
              refine er ?_; refine leP.mk (by first | (simp [big]; omega) | (simp [big]; done)) ?_; refine er ?_; refine Z ?_
              apply exP.mk
              exact rfl
              refine nw (by omega) (by omega) ?_; rotate_left
              all_goals
                have hP := put_inv hr hv hkl hD hj hlt (putL_drop hr.1 hjD c1 c2)
                refine hR (k + 1, D.take j ++ [v] ++ D.drop j) _ _ ⟨hP.1, hP.2⟩ (weak.mk [] [0, 6] rfl rfl ?_ ?_)
                all_goals repeat' first | refine And.intro ?_ ?_ | exact trivial | exact rfl | exact put_row D v j | assumption
        · have hj2 : j = D.length := by omega
          refine lm ?_; refine tN okn ?_; refine lm ?_; refine tY oky ?_; refine drawP.mkS (Z (Z ?_)); refine Z ?_
          apply exP.mk
          exact rfl
          apply exP.mk
          exact rfl
          apply exP.mk
          iterate 2 refine Z ?_
          refine jkm1 (by omega) ?_
          exact rfl
          apply exP.mk
          exact rfl
          apply exP.mk
          exact rfl
          apply exP.mk
          exact rfl
          apply exP.mk
          iterate 2 refine Z ?_
          refine jkm1 (by omega) ?_
          exact rfl
          refine BothP.mk ?_ ?_; iterate 5 refine Z ?_
          refine And.intro ?_ ?_; iterate 2 refine Z ?_
          refine jkm1 (by omega) ?_
          exact rfl
          iterate 3 refine Z ?_
          refine And.intro ?_ ?_; iterate 2 refine Z ?_
          refine jkm1 (by omega) ?_
          exact rfl
          refine BothP.mk ?_ ?_; iterate 4 refine Z ?_
          refine er ?_; refine leP.mk (by first | (simp [big]; omega) | (simp [big]; done)) ?_; iterate 4 refine Z ?_
          refine And.intro ?_ ?_; iterate 2 refine Z ?_
          refine jkm1 (by omega) ?_
          exact rfl
          iterate 5 refine Z ?_
          refine And.intro trivial ?_; iterate 3 refine Z ?_
          refine And.intro ?_ ?_; iterate 2 refine Z ?_
          refine jkm1 (by omega) ?_
          exact rfl
          iterate 5 refine Z ?_
          refine leP.mk (by first | (simp [big]; omega) | (simp [big]; done)) ?_; refine er ?_; iterate 3 refine Z ?_
          refine And.intro ?_ ?_; iterate 2 refine Z ?_
          refine jkm1 (by omega) ?_
          exact rfl
          iterate 5 refine Z ?_
          refine er ?_; refine leP.mk (by first | (simp [big]; omega) | (simp [big]; done)) ?_; refine er ?_; refine Z ?_
          apply exP.mk
          exact rfl
          refine nw (by omega) (by omega) ?_; rotate_left; iterate 5 refine Z ?_
          refine And.intro trivial ?_; iterate 3 refine Z ?_
          refine And.intro ?_ ?_; iterate 2 refine Z ?_
          refine jkm1 (by omega) ?_
          exact rfl
          iterate 2 refine Z ?_
          refine And.intro ?_ ?_; iterate 2 refine Z ?_
          refine jkm1 (by omega) ?_
          exact rfl
          iterate 4 refine Z ?_
          refine er ?_; refine leP.mk (by first | (simp [big]; omega) | (simp [big]; done)) ?_; iterate 3 refine Z ?_
          refine And.intro ?_ ?_; iterate 2 refine Z ?_
          refine jkm1 (by omega) ?_
          exact rfl
          iterate 5 refine Z ?_
          refine leP.mk (by first | (simp [big]; omega) | (simp [big]; done)) ?_; refine er ?_; iterate 3 refine Z ?_
          refine And.intro ?_ ?_; iterate 2 refine Z ?_
          refine jkm1 (by omega) ?_
          exact rfl
          iterate 5 refine Z ?_
          refine er ?_; refine leP.mk (by first | (simp [big]; omega) | (simp [big]; done)) ?_; refine er ?_; refine Z ?_
          apply exP.mk
          exact rfl
          refine nw (by omega) (by omega) ?_; rotate_left; iterate 5 refine Z ?_
          refine And.intro trivial ?_; iterate 3 refine Z ?_
          refine And.intro ?_ ?_; iterate 2 refine Z ?_
          refine jkm1 (by omega) ?_
          exact rfl
          iterate 2 refine Z ?_
          refine And.intro ?_ ?_; iterate 2 refine Z ?_
          refine jkm1 (by omega) ?_
          exact rfl
          iterate 5 refine Z ?_
          refine And.intro ?_ ?_; iterate 2 refine Z ?_
          refine jkm1 (by omega) ?_
          exact rfl
          iterate 2 refine Z ?_
          refine And.intro ?_ ?_; iterate 2 refine Z ?_
          refine jkm1 (by omega) ?_
          exact rfl
          iterate 4 refine Z ?_
          refine er ?_; refine leP.mk (by first | (simp [big]; omega) | (simp [big]; done)) ?_; iterate 3 refine Z ?_
          refine And.intro ?_ ?_; iterate 2 refine Z ?_
          refine jkm1 (by omega) ?_
          exact rfl
          iterate 5 refine Z ?_
          refine leP.mk (by first | (simp [big]; omega) | (simp [big]; done)) ?_; refine er ?_; iterate 3 refine Z ?_
          refine And.intro ?_ ?_; iterate 2 refine Z ?_
          refine jkm1 (by omega) ?_
          exact rfl
          iterate 5 refine Z ?_
          refine er ?_; refine leP.mk (by first | (simp [big]; omega) | (simp [big]; done)) ?_; refine er ?_; refine Z ?_
          apply exP.mk
          exact rfl
          refine nw (by omega) (by omega) ?_; rotate_left
          all_goals
            have hP := put_inv hr hv hkl hD hj hlt (fun y hy => by rw [hj2, List.drop_length] at hy; cases hy)
            refine hR (k + 1, D.take j ++ [v] ++ D.drop j) _ _ ⟨hP.1, hP.2⟩ (weak.mk [] [0, 6] rfl rfl ?_ ?_)
            all_goals repeat' first | refine And.intro ?_ ?_ | exact trivial | exact rfl | exact put_row D v j | assumption
    · have hke : k = l.length := by omega
      subst hke
      obtain rfl : D = rankD n l := risen_eq hr (risenD_ok _ _)
      refine Z ?_; refine lm ?_; refine tN okn ?_; rotate_left
      have hm : ∀ i, i < l.length → viewL n l i ∈ rankD n l := fun i hi => (hr.2 _).2 ⟨i, hi, rfl⟩
      refine loop_up (β := Nat) (fun k => [(4, .loc 2), (9, i64 k)]) (fun k => [(2, row (ranksO (viewL n l) (rankD n l) k))]) [1] (fun k => k ≤ l.length) (fun k => l.length - k) (0) ?_ ?_ ?_
      · exact Nat.zero_le _
      · refine weak.mk [1] [0, 1, 2] rfl rfl ?_ ?_
        repeat' first | exact trivial | exact rfl | exact Iff.rfl | assumption | exact pureI | exact (show _ = _ by omega) | exact (show _ ≤ _ by omega) | exact (show _ < _ by omega) | exact (show ¬ _ by omega) | refine And.intro ?_ ?_
      · rintro k hk R hR
        by_cases hkl : k < l.length
        · have hmk := hm k hkl
          have hvv : ranksO (viewL n l) (rankD n l) (k + 1) = ranksO (viewL n l) (rankD n l) k ++ [fIx (fun x => viewL n l k = x) (rankD n l)] := rfl
          obtain ⟨v, hv⟩ : ∃ v, viewL n l k = v := ⟨_, rfl⟩
          have hvl : v.length = l.length := by rw [← hv]; exact viewL_len n l k
          rw [hv] at hmk hvv
          obtain ⟨p, hp, hpv⟩ := List.mem_iff_getElem.1 hmk
          refine Z ?_; refine lm ?_; refine tY oky ?_; refine callW.mk [] 3 _ _ _ (l10View_c _ _ (by first | omega | assumption | (simp; omega) | (simp; done) | exact trivial | exact hx _ (List.getElem_mem _)) _ (by first | omega | assumption | (simp; omega) | (simp; done) | exact trivial | exact hx _ (List.getElem_mem _))) rfl rfl trivial nofun ?_; rotate_left
          rw [hv]
          refine loop_up (β := Nat) (fun j => [(12, i64 j)]) (fun j => []) [] (fun j => j < (rankD n l).length ∧ ∀ y ∈ (rankD n l).take j, ¬ v = y) (fun j => (rankD n l).length - j) (0) ?_ ?_ ?_
          · exact ⟨by omega, fun y hy => by simp at hy⟩
          · refine weak.mk [] [0, 1, 2, 3] rfl rfl ?_ ?_
            repeat' first | exact trivial | exact rfl | exact Iff.rfl | assumption | exact pureI | exact (show _ = _ by omega) | exact (show _ ≤ _ by omega) | exact (show _ < _ by omega) | exact (show ¬ _ by omega) | refine And.intro ?_ ?_
          · rintro j ⟨hj, hne⟩ R2 hR2
            have e1 := hx _ (List.getElem_mem hj)
            by_cases c1 : (rankD n l)[j] = v
            · have hfx := fIx_here (p := fun x => v = x) hj hne c1.symm
              iterate 2 refine Z ?_
              refine jkm (by omega) ?_; refine gmv (by omega) c1 ?_; refine callW.mk [] 4 _ _ _ (l1Same_c _ _ (by first | omega | assumption | (simp; omega) | (simp; done) | exact trivial | exact hx _ (List.getElem_mem _) | exact hne _ (List.getElem_mem _)) (by first | omega | assumption | (simp; omega) | (simp; done) | exact trivial | exact hx _ (List.getElem_mem _) | exact hne _ (List.getElem_mem _))) rfl rfl trivial nofun ?_; refine tN okn ?_; iterate 10 refine Z ?_
              refine leP.mk (by first | (simp [big]; omega) | (simp [big]; done)) ?_; refine ea ?_; refine nw (by omega) (by omega) ?_; rotate_left
              rw [hfx] at hvv
              refine hR (k + 1) _ _ ?_ ?_; rotate_left; refine weak.mk [] [0, 1, 5] rfl rfl ?_ ?_
              repeat' first | exact trivial | exact rfl | exact Iff.rfl | assumption | exact pureI | exact (show _ = _ by omega) | exact (show _ ≤ _ by omega) | exact (show _ < _ by omega) | exact (show ¬ _ by omega) | refine And.intro ?_ ?_
              rotate_right
              · exact ⟨by omega, by omega⟩
              · rw [hvv]
            · iterate 2 refine Z ?_
              refine jkm (by omega) ?_; refine gm (by omega) ?_; refine callW.mk [] 4 _ _ _ (l1Same_c _ _ (by first | omega | assumption | (simp; omega) | (simp; done) | exact trivial | exact hx _ (List.getElem_mem _) | exact hne _ (List.getElem_mem _)) (by first | omega | assumption | (simp; omega) | (simp; done) | exact trivial | exact hx _ (List.getElem_mem _) | exact hne _ (List.getElem_mem _))) rfl rfl trivial nofun ?_; refine tY oky ?_; refine nw (by omega) (by omega) ?_; rotate_left
              have hpj : j < p := by
                rcases Nat.lt_trichotomy p j with h | h | h
                · exact absurd hpv.symm (hne _ (by rw [List.mem_take_iff_getElem]; exact ⟨p, by omega, rfl⟩))
                · subst h; exact absurd hpv c1
                · exact h
              refine hR2 (j + 1) _ _ ?_ ?_; rotate_left; refine weak.mk [] [0, 1, 2, 3] rfl rfl ?_ ?_
              repeat' first | exact trivial | exact rfl | exact Iff.rfl | assumption | exact pureI | exact (show _ = _ by omega) | exact (show _ ≤ _ by omega) | exact (show _ < _ by omega) | exact (show ¬ _ by omega) | refine And.intro ?_ ?_
              rotate_right
              exact ⟨⟨by omega, (all_take (P := fun y => ¬ v = y) hj).2 ⟨hne, fun h => c1 h.symm⟩⟩, by omega⟩
        · have hke : k = l.length := by omega
          rw [hke]
          refine Z ?_; refine lm ?_; refine tN okn ?_; rotate_left; refine doneV.mk [] [2] rfl rfl ?_ ?_ ?_
          repeat' first | exact trivial | exact rfl | exact Iff.rfl | assumption | exact pureI | exact (show _ = _ by omega) | exact (show _ ≤ _ by omega) | exact (show _ < _ by omega) | exact (show ¬ _ by omega) | refine And.intro ?_ ?_
end Sx
