/- Contracts: what the law of forms draws. -/
import Derived.Test.YteaabofmnlbmkaaSyC
import Derived.Test.YteaabofmnlbmkaaCGh
import Derived.Test.YteaabofmnlbmkaaCb
import Derived.Test.YteaabofmnlbmkaaCTb
set_option linter.all false
namespace Sx
open Go Go.Proofs
set_option maxRecDepth 100000
set_option maxHeartbeats 8000000
set_option linter.unusedSimpArgs false
set_option linter.unusedSectionVars false
variable [Glb]
theorem tcL_6 (n s : Int) (l : List Int) : (tcL n s l).length ≤ 1099511627776 := by
  by_cases h : crowd n l ∧ 0 ≤ s ∧ s ≤ n - 1
  · rw [(tc_yes h).2, (trn_crowd h.1).2]; have := h.1.1; omega
  · rw [(tc_no h).2]; exact Nat.zero_le _
theorem mcL_6 (n : Int) (l : List Int) : (mcL n l).length ≤ 1099511627776 := by
  by_cases h : crowd n l
  · rw [(mc_yes h).2, (mir_crowd h).2]; have := h.1; omega
  · rw [(mc_no h).2]; exact Nat.zero_le _
theorem tcL_7 (n s : Int) (l : List Int) : (tcL n s l).length ≤ 7 := by
  by_cases h : crowd n l ∧ 0 ≤ s ∧ s ≤ n - 1
  · rw [(tc_yes h).2, (trn_crowd h.1).2]; have := h.1.1; omega
  · rw [(tc_no h).2]; exact Nat.zero_le _
theorem mcL_7 (n : Int) (l : List Int) : (mcL n l).length ≤ 7 := by
  by_cases h : crowd n l
  · rw [(mc_yes h).2, (mir_crowd h).2]; have := h.1; omega
  · rw [(mc_no h).2]; exact Nat.zero_le _
theorem DrawIsCrowd_c (L : List UInt8) (hL : L.length ≤ 1099511627776) : CE 80 [.sl 1 (L.map i8)] [] (fun e : Int × List Int => e.2.length ≤ 7 ∧ -1 ≤ e.1 ∧ e.1 ≤ 13) (fun e => .agg [i64 e.1, .loc 0]) (fun e => [row e.2]) false := by
  refine mkE false false Try.func80 rfl ?_; refine And.intro nofun ?_; iterate 6 refine Z ?_
  refine callW.mkE [] [1] 2 _ _ _ _ (crowdB_c _ oka _ _ oka oka) rfl rfl okk (fun _ => ⟨rfl, rfl⟩) (fun _ _ => ?_); iterate 4 refine Z ?_
  rotate_left
  rename_i e h
  refine doneE.mk ((e.1)) ?_ ?_; rotate_left
  focus
    refine doneV.mk [] [2] rfl rfl ?_ ?_ ?_
    repeat' first | exact trivial | exact rfl | exact Iff.rfl | assumption | exact pureI | exact (show _ = _ by omega) | exact (show _ ≤ _ by omega) | exact (show _ < _ by omega) | exact (show ¬ _ by omega) | refine And.intro ?_ ?_
  rotate_right
  · exact h.1
  all_goals exact pureM fun _ => rfl
theorem DrawFirstForm_c (L : List UInt8) (hL : L.length ≤ 1099511627776) : CE 42 [.sl 1 (L.map i8)] [] (fun e : Int × List Int => e.2.length ≤ 7 ∧ -1 ≤ e.1 ∧ e.1 ≤ 13) (fun e => .agg [i64 e.1, .loc 0]) (fun e => [row e.2]) false := by
  refine mkE false false Try.func42 rfl ?_; refine And.intro nofun ?_; refine Z ?_; refine callW.mkE [] [] 1 _ _ _ _ (DrawIsCrowd_c _ oka) rfl rfl trivial nofun (fun _ _ => ?_); iterate 4 refine Z ?_
  rotate_left
  rename_i e h
  refine doneE.mk ((e)) ?_ ?_; rotate_left
  focus
    refine doneV.mk [] [1] rfl rfl ?_ ?_ ?_
    repeat' first | exact trivial | exact rfl | exact Iff.rfl | assumption | exact pureI | exact (show _ = _ by omega) | exact (show _ ≤ _ by omega) | exact (show _ < _ by omega) | exact (show ¬ _ by omega) | refine And.intro ?_ ?_
  rotate_right
  · exact h
  all_goals exact pureM fun _ => rfl
theorem DrawTurnCrowd_c (L : List UInt8) (hL : L.length ≤ 1099511627776) : CE 38 [.sl 1 (L.map i8)] [] (fun e : (Int × List Int) × Int => e.1.2.length ≤ 7 ∧ -1 ≤ e.1.1 ∧ e.1.1 ≤ 13) (fun e => .tuple [.agg [i64 e.1.1, .loc 0], i64 e.2]) (fun e => [row e.1.2]) false := by
  refine mkE false false Try.func38 rfl ?_; refine And.intro nofun ?_; iterate 6 refine Z ?_
  refine callW.mkE [] [1] 2 _ _ _ _ (crowdB_c _ oka _ _ oka oka) rfl rfl okk (fun _ => ⟨rfl, rfl⟩) (fun _ _ => ?_); iterate 5 refine Z ?_
  refine drawP.mkS (Z (Z ?_)); refine Z ?_
  apply exP.mk
  exact rfl
  apply exP.mk
  exact rfl
  apply exP.mk
  exact rfl
  refine callW.mkE [] [1] 4 _ _ _ _ (pick_c _ oka _ _ oka oka _) rfl rfl okk (fun _ => ⟨rfl, rfl⟩) (fun _ _ => ?_); iterate 3 refine Z ?_
  refine callW.mkE [] [1] 4 _ _ _ _ (pick_c _ oka _ _ oka oka _) rfl rfl okk (fun _ => ⟨rfl, rfl⟩) (fun _ _ => ?_); iterate 2 refine Z ?_
  apply exP.mk
  refine And.intro (by omega) ?_; refine ntd (by omega) (by omega) (by omega) ?_
  exact rfl
  apply exP.mk
  refine nw (by omega) (by omega) ?_
  exact rfl
  iterate 5 refine Z ?_
  refine And.intro ?_ ?_; refine And.intro (by omega) ?_; refine ntd (by omega) (by omega) (by omega) ?_
  exact rfl
  refine And.intro ?_ ?_; refine nw (by omega) (by omega) ?_
  exact rfl
  apply exP.mk
  exact rfl
  rotate_left
  rename_i e1 h1 e2 h2 e3 h3
  refine doneE.mk ((e1.1, e2.1 - e3.1 / 23)) ?_ ?_; rotate_left
  focus
    refine doneV.mk [] [2] rfl rfl ?_ ?_ ?_
    repeat' first | exact trivial | exact rfl | exact Iff.rfl | assumption | exact pureI | exact (show _ = _ by omega) | exact (show _ ≤ _ by omega) | exact (show _ < _ by omega) | exact (show ¬ _ by omega) | refine And.intro ?_ ?_
  rotate_right
  · exact h1.1
  all_goals exact pureM fun _ => rfl
theorem DrawCountForms_c (L : List UInt8) (hL : L.length ≤ 1099511627776) : CE 45 [.sl 1 (L.map i8)] [] (fun _ : Int × Int => True) (fun e => .tuple [i64 e.1, i64 e.2]) (fun _ => []) false := by
  refine mkE false false Try.func45 rfl ?_; refine And.intro nofun ?_; iterate 20 refine Z ?_
  refine callW.mkE [] [0, 1] 2 _ _ _ _ (among_c _ oka _ _ oka oka _ oka oka) rfl rfl okk (fun _ => ⟨rfl, rfl⟩) (fun _ _ => ?_); iterate 12 refine Z ?_
  refine callW.mkE [] [0, 2] 3 _ _ _ _ (among_c _ oka _ _ oka oka _ oka oka) rfl rfl okk (fun _ => ⟨rfl, rfl⟩) (fun _ _ => ?_); rotate_left
  rename_i e1 h1 e2 h2
  refine doneE.mk ((e1.1, e2.1)) ?_ ?_; rotate_left
  focus
    refine doneV.mk [] [] rfl rfl ?_ ?_ ?_
    repeat' first | exact trivial | exact rfl | exact Iff.rfl | assumption | exact pureI | exact (show _ = _ by omega) | exact (show _ ≤ _ by omega) | exact (show _ < _ by omega) | exact (show ¬ _ by omega) | refine And.intro ?_ ?_
  rotate_right; exact trivial
theorem DrawAreSameForm_c (L : List UInt8) (hL : L.length ≤ 1099511627776) : CE 35 [.sl 1 (L.map i8)] [] (fun e : (Int × List Int) × (Int × List Int) => e.1.2.length ≤ 7 ∧ e.2.2.length ≤ 7) (fun e => .tuple [.agg [i64 e.1.1, .loc 0], .agg [i64 e.2.1, .loc 1]]) (fun e => [row e.1.2, row e.2.2]) false := by
  have sd1 := tcL_6
  refine mkE false false Try.func35 rfl ?_; refine And.intro nofun ?_; iterate 7 refine Z ?_
  refine callW.mkE [] [2] 3 _ _ _ _ (crowdB_c _ okd _ _ okd okd) rfl rfl okk (fun _ => ⟨rfl, rfl⟩) (fun _ _ => ?_); iterate 5 refine Z ?_
  refine drawP.mkS (Z (Z ?_)); refine Z ?_
  apply exP.mk
  exact rfl
  apply exP.mk
  exact rfl
  apply exP.mk
  refine Z ?_
  exact rfl
  apply exP.mk
  exact rfl
  refine BothP.mk ?_ ?_; refine callW.mk [] 5 _ _ _ (least_c _ _) rfl rfl trivial nofun ?_; iterate 3 refine Z ?_
  refine BothP.mk ?_ ?_; refine callW.mk [] 5 _ _ _ (most_c _ _) rfl rfl trivial nofun ?_; iterate 3 refine Z ?_
  refine BothP.mk ?_ ?_; refine callW.mkE [] [2] 5 _ _ _ _ (pick_c _ okd _ _ okd okd _) rfl rfl okk (fun _ => ⟨rfl, rfl⟩) (fun _ _ => ?_); iterate 2 refine Z ?_
  refine BothP.mk ?_ ?_; refine callW.mk [] 5 _ _ _ (sTurnCrowd_c _ _ _ okd okd) rfl rfl trivial nofun ?_; refine Z ?_
  apply exP.mk
  exact rfl
  apply exP.mk
  exact rfl
  apply exP.mk
  exact rfl
  iterate 11 refine Z ?_
  apply exP.mk
  exact rfl
  refine twoP.mk (fun _ => ?_) (fun _ => ?_); refine callW.mkE [] [2] 7 _ _ _ _ (one_c _ okd _ _ okd okd _) rfl rfl okk (fun _ => ⟨rfl, rfl⟩) (fun _ _ => ?_); refine twoP.mk (fun _ => ?_) (fun _ => ?_); refine callW.mkE [] [2] 7 _ _ _ _ (one_c _ okd _ _ okd okd _) rfl rfl okk (fun _ => ⟨rfl, rfl⟩) (fun _ _ => ?_); refine twoP.mk (fun _ => ?_) (fun _ => ?_); refine callW.mk [] 7 _ _ _ (sMirrorCrowd_c _ _ okd) rfl rfl trivial nofun ?_; iterate 4 refine Z ?_
  refine drawP.mkS (Z (Z ?_)); refine Z ?_
  apply exP.mk
  exact rfl
  apply exP.mk
  exact rfl
  iterate 11 refine Z ?_
  rotate_left; refine drawP.mkS (Z (Z ?_))
  refine Z ?_
  apply exP.mk
  exact rfl
  apply exP.mk
  exact rfl
  iterate 11 refine Z ?_
  rotate_left; refine drawP.mkS (Z (Z ?_))
  refine Z ?_
  apply exP.mk
  exact rfl
  apply exP.mk
  exact rfl
  refine callW.mkE [] [2] 7 _ _ _ _ (crowdB_c _ okd _ _ okd okd) rfl rfl okk (fun _ => ⟨rfl, rfl⟩) (fun _ _ => ?_); iterate 12 refine Z ?_
  rotate_left; refine drawP.mkS (Z (Z ?_))
  refine Z ?_
  apply exP.mk
  exact rfl
  apply exP.mk
  exact rfl
  refine callW.mkE [] [2] 7 _ _ _ _ (crowdB_c _ okd _ _ okd okd) rfl rfl okk (fun _ => ⟨rfl, rfl⟩) (fun _ _ => ?_); iterate 12 refine Z ?_
  rotate_left; iterate 3 refine Z ?_
  refine callW.mk [] 6 _ _ _ (sTurnCrowd_c _ _ _ okd okd) rfl rfl trivial nofun ?_; refine Z ?_
  apply exP.mk
  exact rfl
  apply exP.mk
  exact rfl
  apply exP.mk
  exact rfl
  iterate 6 refine Z ?_
  apply exP.mk
  exact rfl
  refine twoP.mk (fun _ => ?_) (fun _ => ?_); refine callW.mkE [] [2] 7 _ _ _ _ (one_c _ okd _ _ okd okd _) rfl rfl okk (fun _ => ⟨rfl, rfl⟩) (fun _ _ => ?_); refine twoP.mk (fun _ => ?_) (fun _ => ?_); refine callW.mkE [] [2] 7 _ _ _ _ (one_c _ okd _ _ okd okd _) rfl rfl okk (fun _ => ⟨rfl, rfl⟩) (fun _ _ => ?_); refine twoP.mk (fun _ => ?_) (fun _ => ?_); refine callW.mk [] 7 _ _ _ (sMirrorCrowd_c _ _ okd) rfl rfl trivial nofun ?_; iterate 4 refine Z ?_
  refine drawP.mkS (Z (Z ?_)); refine Z ?_
  apply exP.mk
  exact rfl
  apply exP.mk
  exact rfl
  iterate 11 refine Z ?_
  rotate_left; refine drawP.mkS (Z (Z ?_))
  refine Z ?_
  apply exP.mk
  exact rfl
  apply exP.mk
  exact rfl
  iterate 11 refine Z ?_
  rotate_left; refine drawP.mkS (Z (Z ?_))
  refine Z ?_
  apply exP.mk
  exact rfl
  apply exP.mk
  exact rfl
  refine callW.mkE [] [2] 7 _ _ _ _ (crowdB_c _ okd _ _ okd okd) rfl rfl okk (fun _ => ⟨rfl, rfl⟩) (fun _ _ => ?_); iterate 12 refine Z ?_
  rotate_left; refine drawP.mkS (Z (Z ?_))
  refine Z ?_
  apply exP.mk
  exact rfl
  apply exP.mk
  exact rfl
  refine callW.mkE [] [2] 7 _ _ _ _ (crowdB_c _ okd _ _ okd okd) rfl rfl okk (fun _ => ⟨rfl, rfl⟩) (fun _ _ => ?_); iterate 12 refine Z ?_
  rotate_left; iterate 4 refine Z ?_
  refine callW.mkE [] [2] 6 _ _ _ _ (pick_c _ okd _ _ okd okd _) rfl rfl okk (fun _ => ⟨rfl, rfl⟩) (fun _ _ => ?_); iterate 2 refine Z ?_
  refine callW.mk [] 6 _ _ _ (sTurnCrowd_c _ _ _ okd okd) rfl rfl trivial nofun ?_; refine Z ?_
  apply exP.mk
  exact rfl
  apply exP.mk
  exact rfl
  apply exP.mk
  exact rfl
  iterate 6 refine Z ?_
  apply exP.mk
  exact rfl
  refine twoP.mk (fun _ => ?_) (fun _ => ?_); refine callW.mkE [] [2] 7 _ _ _ _ (one_c _ okd _ _ okd okd _) rfl rfl okk (fun _ => ⟨rfl, rfl⟩) (fun _ _ => ?_); refine twoP.mk (fun _ => ?_) (fun _ => ?_); refine callW.mkE [] [2] 7 _ _ _ _ (one_c _ okd _ _ okd okd _) rfl rfl okk (fun _ => ⟨rfl, rfl⟩) (fun _ _ => ?_); refine twoP.mk (fun _ => ?_) (fun _ => ?_); refine callW.mk [] 7 _ _ _ (sMirrorCrowd_c _ _ okd) rfl rfl trivial nofun ?_; iterate 4 refine Z ?_
  refine drawP.mkS (Z (Z ?_)); refine Z ?_
  apply exP.mk
  exact rfl
  apply exP.mk
  exact rfl
  iterate 11 refine Z ?_
  rotate_left; refine drawP.mkS (Z (Z ?_))
  refine Z ?_
  apply exP.mk
  exact rfl
  apply exP.mk
  exact rfl
  iterate 11 refine Z ?_
  rotate_left; refine drawP.mkS (Z (Z ?_))
  refine Z ?_
  apply exP.mk
  exact rfl
  apply exP.mk
  exact rfl
  refine callW.mkE [] [2] 7 _ _ _ _ (crowdB_c _ okd _ _ okd okd) rfl rfl okk (fun _ => ⟨rfl, rfl⟩) (fun _ _ => ?_); iterate 12 refine Z ?_
  rotate_left; refine drawP.mkS (Z (Z ?_))
  refine Z ?_
  apply exP.mk
  exact rfl
  apply exP.mk
  exact rfl
  refine callW.mkE [] [2] 7 _ _ _ _ (crowdB_c _ okd _ _ okd okd) rfl rfl okk (fun _ => ⟨rfl, rfl⟩) (fun _ _ => ?_); iterate 12 refine Z ?_
  rotate_left; iterate 4 refine Z ?_
  refine callW.mk [] 6 _ _ _ (most_c _ _) rfl rfl trivial nofun ?_; iterate 3 refine Z ?_
  refine callW.mkE [] [2] 6 _ _ _ _ (pick_c _ okd _ _ okd okd _) rfl rfl okk (fun _ => ⟨rfl, rfl⟩) (fun _ _ => ?_); iterate 2 refine Z ?_
  refine callW.mk [] 6 _ _ _ (sTurnCrowd_c _ _ _ okd okd) rfl rfl trivial nofun ?_; refine Z ?_
  apply exP.mk
  exact rfl
  apply exP.mk
  exact rfl
  apply exP.mk
  exact rfl
  iterate 6 refine Z ?_
  apply exP.mk
  exact rfl
  refine twoP.mk (fun _ => ?_) (fun _ => ?_); refine callW.mkE [] [2] 7 _ _ _ _ (one_c _ okd _ _ okd okd _) rfl rfl okk (fun _ => ⟨rfl, rfl⟩) (fun _ _ => ?_); refine twoP.mk (fun _ => ?_) (fun _ => ?_); refine callW.mkE [] [2] 7 _ _ _ _ (one_c _ okd _ _ okd okd _) rfl rfl okk (fun _ => ⟨rfl, rfl⟩) (fun _ _ => ?_); refine twoP.mk (fun _ => ?_) (fun _ => ?_); refine callW.mk [] 7 _ _ _ (sMirrorCrowd_c _ _ okd) rfl rfl trivial nofun ?_; iterate 4 refine Z ?_
  refine drawP.mkS (Z (Z ?_)); refine Z ?_
  apply exP.mk
  exact rfl
  apply exP.mk
  exact rfl
  iterate 11 refine Z ?_
  rotate_left; refine drawP.mkS (Z (Z ?_))
  refine Z ?_
  apply exP.mk
  exact rfl
  apply exP.mk
  exact rfl
  iterate 11 refine Z ?_
  rotate_left; refine drawP.mkS (Z (Z ?_))
  refine Z ?_
  apply exP.mk
  exact rfl
  apply exP.mk
  exact rfl
  refine callW.mkE [] [2] 7 _ _ _ _ (crowdB_c _ okd _ _ okd okd) rfl rfl okk (fun _ => ⟨rfl, rfl⟩) (fun _ _ => ?_); iterate 12 refine Z ?_
  rotate_left; refine drawP.mkS (Z (Z ?_))
  refine Z ?_
  apply exP.mk
  exact rfl
  apply exP.mk
  exact rfl
  refine callW.mkE [] [2] 7 _ _ _ _ (crowdB_c _ okd _ _ okd okd) rfl rfl okk (fun _ => ⟨rfl, rfl⟩) (fun _ _ => ?_); iterate 12 refine Z ?_
  rotate_left; iterate 4 refine Z ?_
  refine And.intro ?_ ?_; refine Z ?_
  exact rfl
  refine Z ?_; refine callW.mk [] 6 _ _ _ (least_c _ _) rfl rfl trivial nofun ?_; iterate 3 refine Z ?_
  refine callW.mk [] 6 _ _ _ (most_c _ _) rfl rfl trivial nofun ?_; iterate 3 refine Z ?_
  refine callW.mkE [] [2] 6 _ _ _ _ (pick_c _ okd _ _ okd okd _) rfl rfl okk (fun _ => ⟨rfl, rfl⟩) (fun _ _ => ?_); iterate 2 refine Z ?_
  refine callW.mk [] 6 _ _ _ (sTurnCrowd_c _ _ _ okd okd) rfl rfl trivial nofun ?_; refine Z ?_
  apply exP.mk
  exact rfl
  apply exP.mk
  exact rfl
  apply exP.mk
  exact rfl
  iterate 6 refine Z ?_
  apply exP.mk
  exact rfl
  refine twoP.mk (fun _ => ?_) (fun _ => ?_); refine callW.mkE [] [2] 7 _ _ _ _ (one_c _ okd _ _ okd okd _) rfl rfl okk (fun _ => ⟨rfl, rfl⟩) (fun _ _ => ?_); refine twoP.mk (fun _ => ?_) (fun _ => ?_); refine callW.mkE [] [2] 7 _ _ _ _ (one_c _ okd _ _ okd okd _) rfl rfl okk (fun _ => ⟨rfl, rfl⟩) (fun _ _ => ?_); refine twoP.mk (fun _ => ?_) (fun _ => ?_); refine callW.mk [] 7 _ _ _ (sMirrorCrowd_c _ _ okd) rfl rfl trivial nofun ?_; iterate 4 refine Z ?_
  refine drawP.mkS (Z (Z ?_)); refine Z ?_
  apply exP.mk
  exact rfl
  apply exP.mk
  exact rfl
  iterate 11 refine Z ?_
  rotate_left; refine drawP.mkS (Z (Z ?_))
  refine Z ?_
  apply exP.mk
  exact rfl
  apply exP.mk
  exact rfl
  iterate 11 refine Z ?_
  rotate_left; refine drawP.mkS (Z (Z ?_))
  refine Z ?_
  apply exP.mk
  exact rfl
  apply exP.mk
  exact rfl
  refine callW.mkE [] [2] 7 _ _ _ _ (crowdB_c _ okd _ _ okd okd) rfl rfl okk (fun _ => ⟨rfl, rfl⟩) (fun _ _ => ?_); iterate 12 refine Z ?_
  rotate_left; refine drawP.mkS (Z (Z ?_))
  refine Z ?_
  apply exP.mk
  exact rfl
  apply exP.mk
  exact rfl
  refine callW.mkE [] [2] 7 _ _ _ _ (crowdB_c _ okd _ _ okd okd) rfl rfl okk (fun _ => ⟨rfl, rfl⟩) (fun _ _ => ?_); iterate 12 refine Z ?_
  rotate_left
  · rename_i e1 h1 e2 h2 h3 e4 h4 h5 e6 h6 h7
    refine doneE.mk ((e1.1, (mcN (tcN e1.1.1 e2.1 e1.1.2) (tcL e1.1.1 e2.1 e1.1.2), mcL (tcN e1.1.1 e2.1 e1.1.2) (tcL e1.1.1 e2.1 e1.1.2)))) ?_ ?_; rotate_left
    focus
      refine doneV.mk [] [3, 7] rfl rfl ?_ ?_ ?_
      repeat' first | exact trivial | exact rfl | exact Iff.rfl | assumption | exact pureI | exact (show _ = _ by omega) | exact (show _ ≤ _ by omega) | exact (show _ < _ by omega) | exact (show ¬ _ by omega) | refine And.intro ?_ ?_
    rotate_right
    · exact ⟨h1.1.1, mcL_7 _ _⟩
    all_goals exact pureM fun _ => rfl
  · rename_i e1 h1 e2 h2 h3 e4 h4 h5 e6 h6 h7
    refine doneE.mk ((e1.1, (tcN e1.1.1 e2.1 e1.1.2, tcL e1.1.1 e2.1 e1.1.2))) ?_ ?_; rotate_left
    focus
      refine doneV.mk [] [3, 5] rfl rfl ?_ ?_ ?_
      repeat' first | exact trivial | exact rfl | exact Iff.rfl | assumption | exact pureI | exact (show _ = _ by omega) | exact (show _ ≤ _ by omega) | exact (show _ < _ by omega) | exact (show ¬ _ by omega) | refine And.intro ?_ ?_
    rotate_right
    · exact ⟨h1.1.1, tcL_7 _ _ _⟩
    all_goals exact pureM fun _ => rfl
  · rename_i e1 h1 e2 h2 h3 e4 h4 h5 e6 h6
    refine doneE.mk ((e1.1, e6.1)) ?_ ?_; rotate_left
    focus
      refine doneV.mk [] [3, 7] rfl rfl ?_ ?_ ?_
      repeat' first | exact trivial | exact rfl | exact Iff.rfl | assumption | exact pureI | exact (show _ = _ by omega) | exact (show _ ≤ _ by omega) | exact (show _ < _ by omega) | exact (show ¬ _ by omega) | refine And.intro ?_ ?_
    rotate_right
    · exact ⟨h1.1.1, h6.1.1⟩
    all_goals exact pureM fun _ => rfl
  · rename_i e1 h1 e2 h2 h3 e6 h6
    refine doneE.mk ((e1.1, e6.1)) ?_ ?_; rotate_left
    focus
      refine doneV.mk [] [3, 7] rfl rfl ?_ ?_ ?_
      repeat' first | exact trivial | exact rfl | exact Iff.rfl | assumption | exact pureI | exact (show _ = _ by omega) | exact (show _ ≤ _ by omega) | exact (show _ < _ by omega) | exact (show ¬ _ by omega) | refine And.intro ?_ ?_
    rotate_right
    · exact ⟨h1.1.1, h6.1.1⟩
    all_goals exact pureM fun _ => rfl
  · rename_i e1 h1 e2 h2 h3 e4 h4 h5 e6 h6 h7
    refine doneE.mk ((e1.1, (mcN (tcN e1.1.1 e2.1 e1.1.2) (tcL e1.1.1 e2.1 e1.1.2), mcL (tcN e1.1.1 e2.1 e1.1.2) (tcL e1.1.1 e2.1 e1.1.2)))) ?_ ?_; rotate_left
    focus
      refine doneV.mk [] [3, 7] rfl rfl ?_ ?_ ?_
      repeat' first | exact trivial | exact rfl | exact Iff.rfl | assumption | exact pureI | exact (show _ = _ by omega) | exact (show _ ≤ _ by omega) | exact (show _ < _ by omega) | exact (show ¬ _ by omega) | refine And.intro ?_ ?_
    rotate_right
    · exact ⟨h1.1.1, mcL_7 _ _⟩
    all_goals exact pureM fun _ => rfl
  · rename_i e1 h1 e2 h2 h3 e4 h4 h5 e6 h6 h7
    refine doneE.mk ((e1.1, (tcN e1.1.1 e2.1 e1.1.2, tcL e1.1.1 e2.1 e1.1.2))) ?_ ?_; rotate_left
    focus
      refine doneV.mk [] [3, 6] rfl rfl ?_ ?_ ?_
      repeat' first | exact trivial | exact rfl | exact Iff.rfl | assumption | exact pureI | exact (show _ = _ by omega) | exact (show _ ≤ _ by omega) | exact (show _ < _ by omega) | exact (show ¬ _ by omega) | refine And.intro ?_ ?_
    rotate_right
    · exact ⟨h1.1.1, tcL_7 _ _ _⟩
    all_goals exact pureM fun _ => rfl
  · rename_i e1 h1 e2 h2 h3 e4 h4 h5 e6 h6
    refine doneE.mk ((e1.1, e6.1)) ?_ ?_; rotate_left
    focus
      refine doneV.mk [] [3, 7] rfl rfl ?_ ?_ ?_
      repeat' first | exact trivial | exact rfl | exact Iff.rfl | assumption | exact pureI | exact (show _ = _ by omega) | exact (show _ ≤ _ by omega) | exact (show _ < _ by omega) | exact (show ¬ _ by omega) | refine And.intro ?_ ?_
    rotate_right
    · exact ⟨h1.1.1, h6.1.1⟩
    all_goals exact pureM fun _ => rfl
  · rename_i e1 h1 e2 h2 h3 e6 h6
    refine doneE.mk ((e1.1, e6.1)) ?_ ?_; rotate_left
    focus
      refine doneV.mk [] [3, 7] rfl rfl ?_ ?_ ?_
      repeat' first | exact trivial | exact rfl | exact Iff.rfl | assumption | exact pureI | exact (show _ = _ by omega) | exact (show _ ≤ _ by omega) | exact (show _ < _ by omega) | exact (show ¬ _ by omega) | refine And.intro ?_ ?_
    rotate_right
    · exact ⟨h1.1.1, h6.1.1⟩
    all_goals exact pureM fun _ => rfl
  · rename_i e1 h1 e2 h2 h3 e4 h4 h5 e6 h6 h7
    refine doneE.mk ((e1.1, (mcN (tcN e1.1.1 e2.1 e1.1.2) (tcL e1.1.1 e2.1 e1.1.2), mcL (tcN e1.1.1 e2.1 e1.1.2) (tcL e1.1.1 e2.1 e1.1.2)))) ?_ ?_; rotate_left
    focus
      refine doneV.mk [] [3, 7] rfl rfl ?_ ?_ ?_
      repeat' first | exact trivial | exact rfl | exact Iff.rfl | assumption | exact pureI | exact (show _ = _ by omega) | exact (show _ ≤ _ by omega) | exact (show _ < _ by omega) | exact (show ¬ _ by omega) | refine And.intro ?_ ?_
    rotate_right
    · exact ⟨h1.1.1, mcL_7 _ _⟩
    all_goals exact pureM fun _ => rfl
  · rename_i e1 h1 e2 h2 h3 e4 h4 h5 e6 h6 h7
    refine doneE.mk ((e1.1, (tcN e1.1.1 e2.1 e1.1.2, tcL e1.1.1 e2.1 e1.1.2))) ?_ ?_; rotate_left
    focus
      refine doneV.mk [] [3, 6] rfl rfl ?_ ?_ ?_
      repeat' first | exact trivial | exact rfl | exact Iff.rfl | assumption | exact pureI | exact (show _ = _ by omega) | exact (show _ ≤ _ by omega) | exact (show _ < _ by omega) | exact (show ¬ _ by omega) | refine And.intro ?_ ?_
    rotate_right
    · exact ⟨h1.1.1, tcL_7 _ _ _⟩
    all_goals exact pureM fun _ => rfl
  · rename_i e1 h1 e2 h2 h3 e4 h4 h5 e6 h6
    refine doneE.mk ((e1.1, e6.1)) ?_ ?_; rotate_left
    focus
      refine doneV.mk [] [3, 7] rfl rfl ?_ ?_ ?_
      repeat' first | exact trivial | exact rfl | exact Iff.rfl | assumption | exact pureI | exact (show _ = _ by omega) | exact (show _ ≤ _ by omega) | exact (show _ < _ by omega) | exact (show ¬ _ by omega) | refine And.intro ?_ ?_
    rotate_right
    · exact ⟨h1.1.1, h6.1.1⟩
    all_goals exact pureM fun _ => rfl
  · rename_i e1 h1 e2 h2 h3 e6 h6
    refine doneE.mk ((e1.1, e6.1)) ?_ ?_; rotate_left
    focus
      refine doneV.mk [] [3, 7] rfl rfl ?_ ?_ ?_
      repeat' first | exact trivial | exact rfl | exact Iff.rfl | assumption | exact pureI | exact (show _ = _ by omega) | exact (show _ ≤ _ by omega) | exact (show _ < _ by omega) | exact (show ¬ _ by omega) | refine And.intro ?_ ?_
    rotate_right
    · exact ⟨h1.1.1, h6.1.1⟩
    all_goals exact pureM fun _ => rfl
  · rename_i e1 h1 e2 h2 h3 e4 h4 h5 e6 h6 h7
    refine doneE.mk ((e1.1, (mcN (tcN e1.1.1 e2.1 e1.1.2) (tcL e1.1.1 e2.1 e1.1.2), mcL (tcN e1.1.1 e2.1 e1.1.2) (tcL e1.1.1 e2.1 e1.1.2)))) ?_ ?_; rotate_left
    focus
      refine doneV.mk [] [3, 7] rfl rfl ?_ ?_ ?_
      repeat' first | exact trivial | exact rfl | exact Iff.rfl | assumption | exact pureI | exact (show _ = _ by omega) | exact (show _ ≤ _ by omega) | exact (show _ < _ by omega) | exact (show ¬ _ by omega) | refine And.intro ?_ ?_
    rotate_right
    · exact ⟨h1.1.1, mcL_7 _ _⟩
    all_goals exact pureM fun _ => rfl
  · rename_i e1 h1 e2 h2 h3 e4 h4 h5 e6 h6 h7
    refine doneE.mk ((e1.1, (tcN e1.1.1 e2.1 e1.1.2, tcL e1.1.1 e2.1 e1.1.2))) ?_ ?_; rotate_left
    focus
      refine doneV.mk [] [3, 6] rfl rfl ?_ ?_ ?_
      repeat' first | exact trivial | exact rfl | exact Iff.rfl | assumption | exact pureI | exact (show _ = _ by omega) | exact (show _ ≤ _ by omega) | exact (show _ < _ by omega) | exact (show ¬ _ by omega) | refine And.intro ?_ ?_
    rotate_right
    · exact ⟨h1.1.1, tcL_7 _ _ _⟩
    all_goals exact pureM fun _ => rfl
  · rename_i e1 h1 e2 h2 h3 e4 h4 h5 e6 h6
    refine doneE.mk ((e1.1, e6.1)) ?_ ?_; rotate_left
    focus
      refine doneV.mk [] [3, 7] rfl rfl ?_ ?_ ?_
      repeat' first | exact trivial | exact rfl | exact Iff.rfl | assumption | exact pureI | exact (show _ = _ by omega) | exact (show _ ≤ _ by omega) | exact (show _ < _ by omega) | exact (show ¬ _ by omega) | refine And.intro ?_ ?_
    rotate_right
    · exact ⟨h1.1.1, h6.1.1⟩
    all_goals exact pureM fun _ => rfl
  · rename_i e1 h1 e2 h2 h3 e6 h6
    refine doneE.mk ((e1.1, e6.1)) ?_ ?_; rotate_left
    focus
      refine doneV.mk [] [3, 7] rfl rfl ?_ ?_ ?_
      repeat' first | exact trivial | exact rfl | exact Iff.rfl | assumption | exact pureI | exact (show _ = _ by omega) | exact (show _ ≤ _ by omega) | exact (show _ < _ by omega) | exact (show ¬ _ by omega) | refine And.intro ?_ ?_
    rotate_right
    · exact ⟨h1.1.1, h6.1.1⟩
    all_goals exact pureM fun _ => rfl
  · rename_i e1 h1 e2 h2 h3 e4 h4 h5 e6 h6 h7
    refine doneE.mk ((e1.1, (mcN (tcN e1.1.1 e2.1 e1.1.2) (tcL e1.1.1 e2.1 e1.1.2), mcL (tcN e1.1.1 e2.1 e1.1.2) (tcL e1.1.1 e2.1 e1.1.2)))) ?_ ?_; rotate_left
    focus
      refine doneV.mk [] [3, 7] rfl rfl ?_ ?_ ?_
      repeat' first | exact trivial | exact rfl | exact Iff.rfl | assumption | exact pureI | exact (show _ = _ by omega) | exact (show _ ≤ _ by omega) | exact (show _ < _ by omega) | exact (show ¬ _ by omega) | refine And.intro ?_ ?_
    rotate_right
    · exact ⟨h1.1.1, mcL_7 _ _⟩
    all_goals exact pureM fun _ => rfl
  · rename_i e1 h1 e2 h2 h3 e4 h4 h5 e6 h6 h7
    refine doneE.mk ((e1.1, (tcN e1.1.1 e2.1 e1.1.2, tcL e1.1.1 e2.1 e1.1.2))) ?_ ?_; rotate_left
    focus
      refine doneV.mk [] [3, 6] rfl rfl ?_ ?_ ?_
      repeat' first | exact trivial | exact rfl | exact Iff.rfl | assumption | exact pureI | exact (show _ = _ by omega) | exact (show _ ≤ _ by omega) | exact (show _ < _ by omega) | exact (show ¬ _ by omega) | refine And.intro ?_ ?_
    rotate_right
    · exact ⟨h1.1.1, tcL_7 _ _ _⟩
    all_goals exact pureM fun _ => rfl
  · rename_i e1 h1 e2 h2 h3 e4 h4 h5 e6 h6
    refine doneE.mk ((e1.1, e6.1)) ?_ ?_; rotate_left
    focus
      refine doneV.mk [] [3, 7] rfl rfl ?_ ?_ ?_
      repeat' first | exact trivial | exact rfl | exact Iff.rfl | assumption | exact pureI | exact (show _ = _ by omega) | exact (show _ ≤ _ by omega) | exact (show _ < _ by omega) | exact (show ¬ _ by omega) | refine And.intro ?_ ?_
    rotate_right
    · exact ⟨h1.1.1, h6.1.1⟩
    all_goals exact pureM fun _ => rfl
  · rename_i e1 h1 e2 h2 h3 e6 h6
    refine doneE.mk ((e1.1, e6.1)) ?_ ?_; rotate_left
    focus
      refine doneV.mk [] [3, 7] rfl rfl ?_ ?_ ?_
      repeat' first | exact trivial | exact rfl | exact Iff.rfl | assumption | exact pureI | exact (show _ = _ by omega) | exact (show _ ≤ _ by omega) | exact (show _ < _ by omega) | exact (show ¬ _ by omega) | refine And.intro ?_ ?_
    rotate_right
    · exact ⟨h1.1.1, h6.1.1⟩
    all_goals exact pureM fun _ => rfl
end Sx
