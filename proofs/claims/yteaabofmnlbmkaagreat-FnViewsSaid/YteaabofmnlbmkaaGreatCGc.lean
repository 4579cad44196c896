/- Contracts: what the laws of crowds draw. -/
import Derived.Test.YteaabofmnlbmkaaGreatSyC
import Derived.Test.YteaabofmnlbmkaaGreatCGb
import Derived.Test.YteaabofmnlbmkaaGreatCb
set_option linter.all false
namespace Sx
open Go Go.Proofs
set_option maxRecDepth 100000
set_option maxHeartbeats 8000000
set_option linter.unusedSimpArgs false
set_option linter.unusedSectionVars false
variable [Glb]
theorem robot_c (n : Int) (l : List Int) (hl : l.length ≤ 100) (L : List UInt8) (hL : L.length ≤ 1099511627776) (a s : Int) (h0 : 0 ≤ a) (h1 : a ≤ 1099511620000) : CE 100 [.prow 0 0 0, .agg [i64 n, .loc 1]] [cur L a s, row l] (fun e : Int × Int × Int => a ≤ e.2.1 ∧ e.2.1 ≤ a + 10) (fun e => i64 e.1) (fun e => [cur L e.2.1 e.2.2, row l]) true := by
  refine mkE false false Tryz.func100 rfl ?_; refine And.intro nofun ?_; refine Z ?_; refine callW.mkE [] [0] 3 _ _ _ _ (one_c _ oka _ _ oka oka _) rfl rfl okk (fun _ => ⟨rfl, rfl⟩) (fun _ _ => ?_); refine twoP.mk (fun _ => ?_) (fun _ => ?_); refine Z ?_; refine lm ?_; iterate 7 refine Z ?_
  refine callW.mkE [] [0, 3] 4 _ _ _ _ (among_c _ oka _ _ oka oka _ oka oka) rfl rfl okk (fun _ => ⟨rfl, rfl⟩) (fun _ _ => ?_); rotate_left; refine Z ?_; refine lm ?_; refine callW.mk [] 3 _ _ _ (most_c _ _) rfl rfl trivial nofun ?_; refine callW.mkE [] [0] 3 _ _ _ _ (pick_c _ oka _ _ oka oka _) rfl rfl okk (fun _ => ⟨rfl, rfl⟩) (fun _ _ => ?_); rotate_left
  · rename_i e h2 h3 e2 h4
    refine doneE.mk ((e2.1, e2.2.1, e2.2.2)) ?_ ?_; rotate_left
    focus
      refine doneV.mk [] [0, 1] rfl rfl ?_ ?_ ?_
      repeat' first | exact trivial | exact rfl | exact Iff.rfl | assumption | exact pureI | exact (show _ = _ by omega) | exact (show _ ≤ _ by omega) | exact (show _ < _ by omega) | exact (show ¬ _ by omega) | refine And.intro ?_ ?_
    rotate_right
    all_goals (first | (dsimp only; omega) | skip)
  · rename_i e h2 h3 e2 h4
    refine doneE.mk ((e2.1, e2.2.1, e2.2.2)) ?_ ?_; rotate_left
    focus
      refine doneV.mk [] [0, 1] rfl rfl ?_ ?_ ?_
      repeat' first | exact trivial | exact rfl | exact Iff.rfl | assumption | exact pureI | exact (show _ = _ by omega) | exact (show _ ≤ _ by omega) | exact (show _ < _ by omega) | exact (show ¬ _ by omega) | refine And.intro ?_ ?_
    rotate_right
    all_goals (first | (dsimp only; omega) | skip)
theorem DrawIsCrowd_c (L : List UInt8) (hL : L.length ≤ 1099511627776) : CE 45 [.sl 1 (L.map i8)] [] (fun e : Int × List Int => e.2.length ≤ 7) (fun e => .agg [i64 e.1, .loc 0]) (fun e => [row e.2]) false := by
  refine mkE false false Tryz.func45 rfl ?_; refine And.intro nofun ?_; iterate 6 refine Z ?_
  refine callW.mkE [] [1] 2 _ _ _ _ (crowd_c _ oka _ _ oka oka) rfl rfl okk (fun _ => ⟨rfl, rfl⟩) (fun _ _ => ?_); iterate 4 refine Z ?_
  rotate_left
  rename_i e h
  refine doneE.mk ((e.1)) ?_ ?_; rotate_left
  focus
    refine doneV.mk [] [2] rfl rfl ?_ ?_ ?_
    repeat' first | exact trivial | exact rfl | exact Iff.rfl | assumption | exact pureI | exact (show _ = _ by omega) | exact (show _ ≤ _ by omega) | exact (show _ < _ by omega) | exact (show ¬ _ by omega) | refine And.intro ?_ ?_
  rotate_right
  · exact h.1
  all_goals exact pureM fun _ => rfl
theorem DrawRanksOf_c (L : List UInt8) (hL : L.length ≤ 1099511627776) : CE 6 [.sl 1 (L.map i8)] [] (fun e : Int × List Int => e.2.length ≤ 7) (fun e => .agg [i64 e.1, .loc 0]) (fun e => [row e.2]) false := by
  refine mkE false false Tryz.func6 rfl ?_; refine And.intro nofun ?_; refine Z ?_; refine callW.mkE [] [] 1 _ _ _ _ (DrawIsCrowd_c _ oka) rfl rfl trivial nofun (fun _ _ => ?_); iterate 4 refine Z ?_
  rotate_left
  rename_i e h
  refine doneE.mk ((e)) ?_ ?_; rotate_left
  focus
    refine doneV.mk [] [1] rfl rfl ?_ ?_ ?_
    repeat' first | exact trivial | exact rfl | exact Iff.rfl | assumption | exact pureI | exact (show _ = _ by omega) | exact (show _ ≤ _ by omega) | exact (show _ < _ by omega) | exact (show ¬ _ by omega) | refine And.intro ?_ ?_
  rotate_right
  · exact h
  all_goals exact pureM fun _ => rfl
theorem DrawGapsOf_c (L : List UInt8) (hL : L.length ≤ 1099511627776) : CE 54 [.sl 1 (L.map i8)] [] (fun e : (Int × List Int) × Int => e.1.2.length ≤ 7) (fun e => .tuple [.agg [i64 e.1.1, .loc 0], i64 e.2]) (fun e => [row e.1.2]) false := by
  refine mkE false false Tryz.func54 rfl ?_; refine And.intro nofun ?_; iterate 6 refine Z ?_
  refine callW.mkE [] [1] 2 _ _ _ _ (crowd_c _ oka _ _ oka oka) rfl rfl okk (fun _ => ⟨rfl, rfl⟩) (fun _ _ => ?_); iterate 5 refine Z ?_
  refine drawP.mkS (Z (Z ?_)); refine Z ?_
  apply exP.mk
  exact rfl
  apply exP.mk
  exact rfl
  apply exP.mk
  exact rfl
  refine callW.mkE [] [1, 2] 4 _ _ _ _ (robot_c _ _ oka _ oka _ _ oka oka) rfl rfl okk (fun _ => ⟨rfl, rfl⟩) (fun _ _ => ?_); iterate 7 refine Z ?_
  apply exP.mk
  exact rfl
  rotate_left
  rename_i e1 h1 e2 h2
  refine doneE.mk ((e1.1, e2.1)) ?_ ?_; rotate_left
  focus
    refine doneV.mk [] [2] rfl rfl ?_ ?_ ?_
    repeat' first | exact trivial | exact rfl | exact Iff.rfl | assumption | exact pureI | exact (show _ = _ by omega) | exact (show _ ≤ _ by omega) | exact (show _ < _ by omega) | exact (show ¬ _ by omega) | refine And.intro ?_ ?_
  rotate_right
  · exact h1.1
  all_goals exact pureM fun _ => rfl
theorem DrawViewOf_c (L : List UInt8) (hL : L.length ≤ 1099511627776) : CE 17 [.sl 1 (L.map i8)] [] (fun e : (Int × List Int) × Int => e.1.2.length ≤ 7) (fun e => .tuple [.agg [i64 e.1.1, .loc 0], i64 e.2]) (fun e => [row e.1.2]) false := by
  refine mkE false false Tryz.func17 rfl ?_; refine And.intro nofun ?_; refine Z ?_; refine callW.mkE [] [] 1 _ _ _ _ (DrawGapsOf_c _ oka) rfl rfl trivial nofun (fun _ _ => ?_); iterate 4 refine Z ?_
  rotate_left
  rename_i e h
  refine doneE.mk ((e)) ?_ ?_; rotate_left
  focus
    refine doneV.mk [] [1] rfl rfl ?_ ?_ ?_
    repeat' first | exact trivial | exact rfl | exact Iff.rfl | assumption | exact pureI | exact (show _ = _ by omega) | exact (show _ ≤ _ by omega) | exact (show _ < _ by omega) | exact (show ¬ _ by omega) | refine And.intro ?_ ?_
  rotate_right
  · exact h
  all_goals exact pureM fun _ => rfl
end Sx
