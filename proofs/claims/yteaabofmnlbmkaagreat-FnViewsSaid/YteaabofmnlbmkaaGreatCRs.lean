/- Contracts: ranks, of the program. -/
import Derived.Test.YteaabofmnlbmkaaGreatSyC
import Derived.Test.YteaabofmnlbmkaaGreatCRr
import Derived.Test.YteaabofmnlbmkaaGreatCRj
import Derived.Test.YteaabofmnlbmkaaGreatMxA
set_option linter.all false
namespace Sx
open Go Go.Proofs
set_option maxRecDepth 100000
set_option maxHeartbeats 8000000
set_option linter.unusedSimpArgs false
set_option linter.unusedSectionVars false
variable [Glb]
theorem ranks_c (n : Int) (l : List Int) (hc : crowd n l) : C 46 [.agg [i64 n, ints l]] [] (.loc 0) [row (ranksL n l)] false := by
  have hn := hc.1.1
  have hl := hc.1.2
  refine mkC false true Tryz.func46 rfl ?_; refine And.intro (fun _ => rfl) ?_; iterate 4 refine Z ?_
  refine lm ?_; rotate_left; refine loop_up (β := Nat) (fun k => [(3, .loc 1), (16, i64 k)]) (fun k => [(1, rowI ((List.range k).map (viewL n l)))]) [1] (fun k => k ≤ l.length) (fun k => l.length - k) (0) ?_ ?_ ?_
  · exact Nat.zero_le _
  · refine weak.mk [1] [0, 1] rfl rfl ?_ ?_
    repeat' first | exact trivial | exact rfl | exact Iff.rfl | assumption | exact pureI | exact (show _ = _ by omega) | exact (show _ ≤ _ by omega) | exact (show _ < _ by omega) | exact (show ¬ _ by omega) | refine And.intro ?_ ?_
  · rintro k hk R hR
    by_cases hkl : k < l.length
    · refine tY oky ?_
      refine callW.mk [] 2 _ _ _ (view_c _ _ oka _ oka) rfl rfl trivial nofun ?_; iterate 5 refine Z ?_
      refine And.intro trivial ?_; iterate 5 refine Z ?_
      refine leP.mk (by first | (simp [big]; omega) | (simp [big]; done)) ?_; refine ea ?_; refine nw (by omega) (by omega) ?_; rotate_left; refine hR (k + 1) _ _ ?_ ?_; rotate_left; refine weak.mk [] [0, 4] rfl rfl ?_ ?_
      repeat' first | exact trivial | exact rfl | exact Iff.rfl | assumption | exact pureI | exact (show _ = _ by omega) | exact (show _ ≤ _ by omega) | exact (show _ < _ by omega) | exact (show ¬ _ by omega) | refine And.intro ?_ ?_
      rotate_right
      · exact ⟨by omega, by omega⟩
      · rw [List.range_succ, List.map_append]; rfl
    · have hke : k = l.length := by omega
      subst hke
      obtain ⟨vs, hvs⟩ : ∃ vs, (List.range l.length).map (viewL n l) = vs := ⟨_, rfl⟩
      have hvl : vs.length = l.length := by rw [← hvs]; simp
      have hve : ∀ x ∈ vs, x.length = l.length := fun x hx => by
        rw [← hvs] at hx
        obtain ⟨i, _, rfl⟩ := List.mem_map.1 hx
        exact viewL_len n l i
      have hve2 : ∀ x ∈ vs, x.length ≤ 1099511627776 := fun x hx => by rw [hve x hx]; omega
      rw [hvs]
      refine tN okn ?_; rotate_left; refine callW.frz [0] rfl rfl trivial ?_; refine callX.mk [] 1 _ _ _ (Values_c _) rfl rfl okk (fun _ => ⟨rfl, rfl⟩) ?_; refine callW.mkE [] [] 1 _ _ _ _ (SortedFunc_c _ (by first | omega | assumption | (simp; omega) | (simp; done) | exact trivial | exact hve _ (List.getElem_mem _) | exact hve2 _ (List.getElem_mem _)) (by first | omega | assumption | (simp; omega) | (simp; done) | exact trivial | exact hve _ (List.getElem_mem _) | exact hve2 _ (List.getElem_mem _)) (by first | omega | assumption | (simp; omega) | (simp; done) | exact trivial | exact hve _ (List.getElem_mem _) | exact hve2 _ (List.getElem_mem _))) rfl rfl okk (fun _ => ⟨rfl, rfl⟩) (fun _ _ => ?_); rotate_left
      rename_i M hM
      have hMl := hM.1.length_eq
      have hMe : ∀ x ∈ M, x.length ≤ 1099511627776 := fun x hx => hve2 x (hM.1.mem_iff.1 hx)
      have hrk : risen (viewL n l) (rankD n l) l.length := risenD_ok (viewL n l) l.length
      have hcp : cpK M M.length = rankD n l := cpK_eq hM.1 hM.2 hrk.1 fun x => by
        rw [hrk.2, ← hvs, List.mem_map]
        exact ⟨fun ⟨i, h1, h2⟩ => ⟨i, List.mem_range.2 h1, h2⟩, fun ⟨i, h1, h2⟩ => ⟨i, List.mem_range.1 h1, h2⟩⟩
      have hrl : ∀ x ∈ rankD n l, x.length = l.length := risen_len hrk
      have hrn : (rankD n l).length ≤ l.length := risenD_le (viewL n l) l.length
      have hre : ∀ x ∈ rankD n l, x.length ≤ 1099511627776 := fun x hx => by rw [hrl x hx]; omega
      by_cases hnd : noDup M M.length
      · obtain rfl : M = rankD n l := by rw [← hcp, cpK_nd (Nat.le_refl _) hnd, List.take_length]
        refine callW.mk [1] 2 _ _ _ (CompactN_c _ (by first | omega | assumption | (simp; omega) | (simp; done) | exact trivial | exact hve _ (List.getElem_mem _) | exact hve2 _ (List.getElem_mem _) | exact hrl _ (List.getElem_mem _) | exact hre _ (List.getElem_mem _) | exact hMe _ (List.getElem_mem _)) (by first | omega | assumption | (simp; omega) | (simp; done) | exact trivial | exact hve _ (List.getElem_mem _) | exact hve2 _ (List.getElem_mem _) | exact hrl _ (List.getElem_mem _) | exact hre _ (List.getElem_mem _) | exact hMe _ (List.getElem_mem _)) (by first | omega | assumption | (simp; omega) | (simp; done) | exact trivial | exact hve _ (List.getElem_mem _) | exact hve2 _ (List.getElem_mem _) | exact hrl _ (List.getElem_mem _) | exact hre _ (List.getElem_mem _) | exact hMe _ (List.getElem_mem _))) rfl rfl okk (fun _ => ⟨rfl, rfl⟩) ?_; iterate 2 refine Z ?_
        refine lm ?_; rotate_left; refine loop_up (β := Nat) (fun k => [(3, .sl 1 (vs.map ints)), (37, .sl 1 (vs.map ints)), (8, .sl 1 ((rankD n l).map ints)), (9, .loc 1), (39, i64 k), (33, .unk), (34, .unk), (35, .unk)]) (fun k => [(1, row (ranksO (viewL n l) (rankD n l) k))]) [] (fun k => k ≤ l.length) (fun k => l.length - k) (0) ?_ ?_ ?_
        · exact Nat.zero_le _
        · refine weak.fz [1] [0, 2] rfl rfl rfl trivial ?_ ?_
          all_goals repeat' first | exact trivial | exact rfl | exact Iff.rfl | assumption | refine And.intro ?_ ?_
        · rintro k hk R hR
          by_cases hkl : k < l.length
          · have hvk : vs[k]'(by omega) = viewL n l k := by
              subst hvs; simp
            have hvn := viewL_len n l k
            have hvv : ranksO (viewL n l) (rankD n l) (k + 1) = ranksO (viewL n l) (rankD n l) k ++ [fIx (fun x => viewL n l k = x) (rankD n l)] := rfl
            refine tY oky ?_; iterate 2 refine Z ?_
            refine jkm (by omega) ?_; refine gmv (by omega) hvk ?_; iterate 5 refine Z ?_
            refine callW.mk [] 3 _ _ _ (IndexFuncT_c _ _ (by first | omega | assumption | (simp; omega) | (simp; done) | exact trivial | exact hve _ (List.getElem_mem _) | exact hve2 _ (List.getElem_mem _) | exact hrl _ (List.getElem_mem _) | exact hre _ (List.getElem_mem _) | exact hMe _ (List.getElem_mem _)) (by first | omega | assumption | (simp; omega) | (simp; done) | exact trivial | exact hve _ (List.getElem_mem _) | exact hve2 _ (List.getElem_mem _) | exact hrl _ (List.getElem_mem _) | exact hre _ (List.getElem_mem _) | exact hMe _ (List.getElem_mem _)) (by first | omega | assumption | (simp; omega) | (simp; done) | exact trivial | exact hve _ (List.getElem_mem _) | exact hve2 _ (List.getElem_mem _) | exact hrl _ (List.getElem_mem _) | exact hre _ (List.getElem_mem _) | exact hMe _ (List.getElem_mem _))) rfl rfl trivial nofun ?_; iterate 10 refine Z ?_
            refine leP.mk (by first | (simp [big]; omega) | (simp [big]; done)) ?_; refine ea ?_; refine nw (by omega) (by omega) ?_; rotate_left; refine hR (k + 1) _ _ ?_ ?_; rotate_left; refine weak.mk [] [0, 4] rfl rfl ?_ ?_
            repeat' first | exact trivial | exact rfl | exact Iff.rfl | assumption | exact pureI | exact (show _ = _ by omega) | exact (show _ ≤ _ by omega) | exact (show _ < _ by omega) | exact (show ¬ _ by omega) | refine And.intro ?_ ?_
            rotate_right
            · exact ⟨by omega, by omega⟩
          · have hke : k = l.length := by omega
            rw [hke]
            refine tN okn ?_; rotate_left; refine doneV.mk [] [1] rfl rfl ?_ ?_ ?_
            repeat' first | exact trivial | exact rfl | exact Iff.rfl | assumption | exact pureI | exact (show _ = _ by omega) | exact (show _ ≤ _ by omega) | exact (show _ < _ by omega) | exact (show ¬ _ by omega) | refine And.intro ?_ ?_
      · refine callW.mk [1] 2 _ _ _ (CompactD_c _ (by first | omega | assumption | (simp; omega) | (simp; done) | exact trivial | exact hve _ (List.getElem_mem _) | exact hve2 _ (List.getElem_mem _) | exact hMe _ (List.getElem_mem _) | exact hrl _ (List.getElem_mem _) | exact hre _ (List.getElem_mem _)) (by first | omega | assumption | (simp; omega) | (simp; done) | exact trivial | exact hve _ (List.getElem_mem _) | exact hve2 _ (List.getElem_mem _) | exact hMe _ (List.getElem_mem _) | exact hrl _ (List.getElem_mem _) | exact hre _ (List.getElem_mem _)) (by first | omega | assumption | (simp; omega) | (simp; done) | exact trivial | exact hve _ (List.getElem_mem _) | exact hve2 _ (List.getElem_mem _) | exact hMe _ (List.getElem_mem _) | exact hrl _ (List.getElem_mem _) | exact hre _ (List.getElem_mem _))) rfl rfl okk (fun _ => ⟨rfl, rfl⟩) ?_
        iterate 2 refine Z ?_
        refine lm ?_; rotate_left; refine loop_up (β := Nat) (fun k => [(3, .sl 1 (vs.map ints)), (37, .sl 1 (vs.map ints)), (8, .sl 1 ((rankD n l).map ints)), (9, .loc 1), (39, i64 k), (33, .unk), (34, .unk), (35, .unk)]) (fun k => [(1, row (ranksO (viewL n l) (rankD n l) k))]) [] (fun k => k ≤ l.length) (fun k => l.length - k) (0) ?_ ?_ ?_
        · exact Nat.zero_le _
        · refine weak.fz [1] [0, 2] rfl rfl rfl trivial ?_ ?_
          all_goals repeat' first | exact trivial | exact rfl | exact Iff.rfl | assumption | refine And.intro ?_ ?_
          rw [hcp, List.drop_zero, List.take_left' (List.length_map ..)]
        · rintro k hk R hR
          by_cases hkl : k < l.length
          · have hvk : vs[k]'(by omega) = viewL n l k := by
              subst hvs; simp
            have hvn := viewL_len n l k
            have hvv : ranksO (viewL n l) (rankD n l) (k + 1) = ranksO (viewL n l) (rankD n l) k ++ [fIx (fun x => viewL n l k = x) (rankD n l)] := rfl
            refine tY oky ?_; iterate 2 refine Z ?_
            refine jkm (by omega) ?_; refine gmv (by omega) hvk ?_; iterate 5 refine Z ?_
            refine callW.mk [] 3 _ _ _ (IndexFuncT_c _ _ (by first | omega | assumption | (simp; omega) | (simp; done) | exact trivial | exact hve _ (List.getElem_mem _) | exact hve2 _ (List.getElem_mem _) | exact hMe _ (List.getElem_mem _) | exact hrl _ (List.getElem_mem _) | exact hre _ (List.getElem_mem _)) (by first | omega | assumption | (simp; omega) | (simp; done) | exact trivial | exact hve _ (List.getElem_mem _) | exact hve2 _ (List.getElem_mem _) | exact hMe _ (List.getElem_mem _) | exact hrl _ (List.getElem_mem _) | exact hre _ (List.getElem_mem _)) (by first | omega | assumption | (simp; omega) | (simp; done) | exact trivial | exact hve _ (List.getElem_mem _) | exact hve2 _ (List.getElem_mem _) | exact hMe _ (List.getElem_mem _) | exact hrl _ (List.getElem_mem _) | exact hre _ (List.getElem_mem _))) rfl rfl trivial nofun ?_; iterate 10 refine Z ?_
            refine leP.mk (by first | (simp [big]; omega) | (simp [big]; done)) ?_; refine ea ?_; refine nw (by omega) (by omega) ?_; rotate_left; refine hR (k + 1) _ _ ?_ ?_; rotate_left; refine weak.mk [] [0, 4] rfl rfl ?_ ?_
            repeat' first | exact trivial | exact rfl | exact Iff.rfl | assumption | exact pureI | exact (show _ = _ by omega) | exact (show _ ≤ _ by omega) | exact (show _ < _ by omega) | exact (show ¬ _ by omega) | refine And.intro ?_ ?_
            rotate_right
            · exact ⟨by omega, by omega⟩
          · have hke : k = l.length := by omega
            rw [hke]
            refine tN okn ?_; rotate_left; refine doneV.mk [] [1] rfl rfl ?_ ?_ ?_
            repeat' first | exact trivial | exact rfl | exact Iff.rfl | assumption | exact pureI | exact (show _ = _ by omega) | exact (show _ ≤ _ by omega) | exact (show _ < _ by omega) | exact (show ¬ _ by omega) | refine And.intro ?_ ?_
end Sx
