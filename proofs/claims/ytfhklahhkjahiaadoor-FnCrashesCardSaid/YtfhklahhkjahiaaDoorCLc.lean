/- Contracts: all records of a text. -/
import Derived.Test.YtfhklahhkjahiaaDoorCLb
set_option linter.all false
namespace Sx
open Go Go.Proofs
set_option maxRecDepth 100000
set_option maxHeartbeats 4000000
set_option linter.unusedSimpArgs false
set_option linter.unusedSectionVars false
variable [Glb]
variable [HasTab]
theorem readRecords_c (s : List UInt8) (hs : s.length ≤ 1000000) : C 52 [.str s] [] (.tuple [.loc 0, .loc 1]) [rowE (recsB s), row (endsB s)] false := by
  refine mkC false false Tryd.func52 rfl ?_
  refine And.intro nofun ?_
  iterate 7 refine Z ?_
  rotate_left
  refine loop_up (β := Nat) (fun j => [(4, .loc 1), (5, .loc 0), (6, i64 (atB s j)), (19, .unk)]) (fun j => [(0, row (endsTo s j)), (1, rowE (recsTo s j))]) [2] (fun j => j ≤ 60 ∧ ∀ i < j, goodB s i) (fun j => 60 - j) (0) ?_ ?_ ?_
  · exact ⟨by omega, fun i hi => by omega⟩
  · refine weak.mk [2] [0, 1] rfl rfl ?_ ?_
    repeat' first | exact trivial | exact rfl | exact Iff.rfl | assumption | exact pureI | exact (show _ = _ by omega) | exact (show _ ≤ _ by omega) | exact (show _ < _ by omega) | exact (show ¬ _ by omega) | refine And.intro ?_ ?_
  · rintro j ⟨hj, hg⟩ R hR
    have hat := at_le hg
    have hlr : (List.map rcv (recsTo s j)).length = j := by simp
    by_cases h60 : j < 60
    · obtain ⟨W, hW⟩ : ∃ W, s.drop (atB s j) = W := ⟨_, rfl⟩
      have hWl : W.length ≤ 1000000 := by rw [← hW]; simp; omega
      have sA : List.drop (atB s j) (List.take s.length s) = W := by rw [List.take_length]; exact hW
      have hbl := bef_le 10 W
      by_cases hm : (10 : UInt8) ∈ W
      · have hWb := bef_len hm
        by_cases hok : okL2 (j : Int) (bef 10 W)
        · obtain ⟨h1, h2, h3⟩ := okL_rec (by omega) hok
          have hv := okL_vc (by omega) (by omega) hok
          have hV := VerifyChecksum_c (bef 10 W) (by omega)
          rw [if_pos hv] at hV
          have he : encOk (j : Int) (cB (bef 10 W)) (rB (bef 10 W)) := ⟨by omega, h1⟩
          have hc1 : ((cB (bef 10 W)).length : Int) ≤ 160 := h1.2.1.2
          have hr1 : ((rB (bef 10 W)).length : Int) ≤ 250 := h1.2.2.2.2
          have hE := EncodeRecord_c (j : Int) (cB (bef 10 W)) (rB (bef 10 W)) (by omega) (by omega)
          rw [if_pos he, h2] at hE
          have s5 : bef 10 W ++ [10] = bef 10 W ++ [10] := rfl
          have hb3 := bef_le 35 (bef 10 W)
          have ha3 : (aft 32 (bef 35 (bef 10 W))).length ≤ 1000000 := by unfold aft; simp; omega
          refine (lenP.mk j hlr) ?_
          refine tY (by first | omega | assumption | exact rfl | exact Iff.rfl) ?_
          refine jk (by omega) ?_
          refine eqS.mk _ sA ?_
          refine callW.mk [] 2 _ _ _ ((Cut_c W 10 (by omega))) rfl rfl (by repeat' first | exact trivial | assumption | exact knownSS | exact knownApp knownSS knownNil | refine And.intro ?_ ?_) nofun ?_
          refine tN (by first | omega | assumption | exact fun h => h (by assumption) | exact fun h => h rfl | exact fun h => h Iff.rfl) ?_
          refine callW.mk [] 2 _ _ _ (hV) rfl rfl (by repeat' first | exact trivial | assumption | exact knownSS | exact knownApp knownSS knownNil | refine And.intro ?_ ?_) nofun ?_
          refine callW.mk [] 2 _ _ _ ((Cut_c (bef 35 (bef 10 W)) 32 (by omega))) rfl rfl (by repeat' first | exact trivial | assumption | exact knownSS | exact knownApp knownSS knownNil | refine And.intro ?_ ?_) nofun ?_
          refine callW.mk [] 2 _ _ _ ((Cut_c (aft 32 (bef 35 (bef 10 W))) 64 (by omega))) rfl rfl (by repeat' first | exact trivial | assumption | exact knownSS | exact knownApp knownSS knownNil | refine And.intro ?_ ?_) nofun ?_
          iterate 12 refine Z ?_
          refine (lenP.mk j hlr) ?_
          refine callW.mk [] 3 _ _ _ (hE) rfl rfl (by repeat' first | exact trivial | assumption | exact knownSS | exact knownApp knownSS knownNil | refine And.intro ?_ ?_) nofun ?_
          refine tN (by first | omega | assumption | exact fun h => h (by assumption) | exact fun h => h rfl | exact fun h => h Iff.rfl) ?_
          refine And.intro (by simp; omega) ?_
          refine eqS.mk _ s5 ?_
          refine tN (by first | omega | assumption | exact fun h => h (by assumption) | exact fun h => h rfl | exact fun h => h Iff.rfl) ?_
          refine lenS.mk _ rfl ?_
          iterate 2 refine nw (by omega) (by omega) ?_
          iterate 10 refine Z ?_
          refine leP.mk (by first | (simp [big]; omega) | (simp [big]; done)) ?_
          refine er ?_
          iterate 10 refine Z ?_
          refine leP.mk (by first | (simp [big]; omega) | (simp [big]; done)) ?_
          refine ea ?_
          rotate_left
          refine hR (j + 1) _ _ ?_ ?_
          rotate_left
          refine weak.mk [] [6, 4] rfl rfl ?_ ?_
          repeat' first | exact trivial | exact rfl | exact Iff.rfl | assumption | exact pureI | exact (show _ = _ by omega) | exact (show _ ≤ _ by omega) | exact (show _ < _ by omega) | exact (show ¬ _ by omega) | refine And.intro ?_ ?_
          rotate_right
          all_goals first
            | exact at_num hW
            | exact map_more (f := i64) (ends_more hW)
            | exact congrArg (List.map i64) (ends_more hW)
            | exact congrArg (List.map rcv) (recs_more hW)
            | exact map_more (f := rcv) (recs_more hW)
            | exact ⟨⟨by omega, good_more hg ((good_at hW).2 ⟨hm, hok⟩)⟩, by omega⟩
            | exact pureI
            | exact pureRec
        · have hV := VerifyChecksum_c (bef 10 W) (by omega)
          have htl : (if vcOk (bef 10 W) then bef 35 (bef 10 W) else []).length ≤ (bef 10 W).length := by
            split
            · exact bef_le _ _
            · simp
          generalize (if vcOk (bef 10 W) then bef 35 (bef 10 W) else []) = tx at hV htl
          have ha3 : (aft 32 tx).length ≤ 1000000 := by unfold aft; simp; omega
          have hb3 := bef_le 64 (aft 32 tx)
          have ha4 : (aft 64 (aft 32 tx)).length ≤ 1000000 := by
            have : (aft 64 (aft 32 tx)).length ≤ (aft 32 tx).length := by
              generalize aft 32 tx = y
              unfold aft
              simp
            omega
          have hE := EncodeRecord_c (j : Int) (bef 64 (aft 32 tx)) (aft 64 (aft 32 tx)) (by omega) (by omega)
          have hno : ¬ (encOk (j : Int) (bef 64 (aft 32 tx)) (aft 64 (aft 32 tx)) ∧ lineB (j : Int) (bef 64 (aft 32 tx)) (aft 64 (aft 32 tx)) = bef 10 W ++ [10]) := fun ⟨e, h⟩ => hok (okL_of e.2 h)
          have s5 : bef 10 W ++ [10] = bef 10 W ++ [10] := rfl
          refine (lenP.mk j hlr) ?_
          refine tY (by first | omega | assumption | exact rfl | exact Iff.rfl) ?_
          refine jk (by omega) ?_
          refine eqS.mk _ sA ?_
          refine callW.mk [] 2 _ _ _ ((Cut_c W 10 (by omega))) rfl rfl (by repeat' first | exact trivial | assumption | exact knownSS | exact knownApp knownSS knownNil | refine And.intro ?_ ?_) nofun ?_
          refine tN (by first | omega | assumption | exact fun h => h (by assumption) | exact fun h => h rfl | exact fun h => h Iff.rfl) ?_
          refine callW.mk [] 2 _ _ _ (hV) rfl rfl (by repeat' first | exact trivial | assumption | exact knownSS | exact knownApp knownSS knownNil | refine And.intro ?_ ?_) nofun ?_
          refine callW.mk [] 2 _ _ _ ((Cut_c tx 32 (by omega))) rfl rfl (by repeat' first | exact trivial | assumption | exact knownSS | exact knownApp knownSS knownNil | refine And.intro ?_ ?_) nofun ?_
          refine callW.mk [] 2 _ _ _ ((Cut_c (aft 32 tx) 64 (by omega))) rfl rfl (by repeat' first | exact trivial | assumption | exact knownSS | exact knownApp knownSS knownNil | refine And.intro ?_ ?_) nofun ?_
          iterate 12 refine Z ?_
          refine (lenP.mk j hlr) ?_
          refine callW.mk [] 3 _ _ _ (hE) rfl rfl (by repeat' first | exact trivial | assumption | exact knownSS | exact knownApp knownSS knownNil | refine And.intro ?_ ?_) nofun ?_
          refine twoN (fun _ => ?_) (fun _ => ?_)
          rotate_left
          refine And.intro (by simp; omega) ?_
          refine eqS.mk _ s5 ?_
          refine twoN (fun _ => ?_) (fun _ => ?_)
          rotate_left
          refine lenS.mk _ rfl ?_
          iterate 2 refine nw (by omega) (by omega) ?_
          iterate 10 refine Z ?_
          refine leP.mk (by first | (simp [big]; omega) | (simp [big]; done)) ?_
          refine er ?_
          iterate 10 refine Z ?_
          refine leP.mk (by first | (simp [big]; omega) | (simp [big]; done)) ?_
          refine ea ?_
          rotate_left
          · have e : cntB s = j := cnt_stop hj hg fun h => hok ((good_at hW).1 h).2
            rw [recsB_eq e, endsB_eq e]
            refine doneV.mk [] [1, 0] rfl rfl ?_ ?_ ?_
            repeat' first | exact trivial | exact rfl | exact Iff.rfl | assumption | exact pureI | exact (show _ = _ by omega) | exact (show _ ≤ _ by omega) | exact (show _ < _ by omega) | exact (show ¬ _ by omega) | refine And.intro ?_ ?_
            all_goals first | exact pureI | exact pureRec
          · have e : cntB s = j := cnt_stop hj hg fun h => hok ((good_at hW).1 h).2
            rw [recsB_eq e, endsB_eq e]
            refine doneV.mk [] [1, 0] rfl rfl ?_ ?_ ?_
            repeat' first | exact trivial | exact rfl | exact Iff.rfl | assumption | exact pureI | exact (show _ = _ by omega) | exact (show _ ≤ _ by omega) | exact (show _ < _ by omega) | exact (show ¬ _ by omega) | refine And.intro ?_ ?_
            all_goals first | exact pureI | exact pureRec
          · rename_i h1 h2
            rw [if_pos h1] at h2
            exact (hno ⟨h1, h2⟩).elim
      · have e : cntB s = j := cnt_stop hj hg fun h => hm ((good_at hW).1 h).1
        rw [recsB_eq e, endsB_eq e]
        refine (lenP.mk j hlr) ?_
        refine tY (by first | omega | assumption | exact rfl | exact Iff.rfl) ?_
        refine jk (by omega) ?_
        refine eqS.mk _ sA ?_
        refine callW.mk [] 2 _ _ _ ((Cut_c W 10 (by omega))) rfl rfl (by repeat' first | exact trivial | assumption | exact knownSS | exact knownApp knownSS knownNil | refine And.intro ?_ ?_) nofun ?_
        refine tY (by first | omega | assumption | exact rfl | exact Iff.rfl) ?_
        rotate_left
        refine doneV.mk [] [1, 0] rfl rfl ?_ ?_ ?_
        repeat' first | exact trivial | exact rfl | exact Iff.rfl | assumption | exact pureI | exact (show _ = _ by omega) | exact (show _ ≤ _ by omega) | exact (show _ < _ by omega) | exact (show ¬ _ by omega) | refine And.intro ?_ ?_
        all_goals first | exact pureI | exact pureRec
    · have e : cntB s = j := by
        have : j = 60 := by omega
        subst this
        exact cnt_full hg
      rw [recsB_eq e, endsB_eq e]
      refine (lenP.mk j hlr) ?_
      refine tN (by first | omega | assumption | exact fun h => h (by assumption) | exact fun h => h rfl | exact fun h => h Iff.rfl) ?_
      rotate_left
      refine doneV.mk [] [1, 0] rfl rfl ?_ ?_ ?_
      repeat' first | exact trivial | exact rfl | exact Iff.rfl | assumption | exact pureI | exact (show _ = _ by omega) | exact (show _ ≤ _ by omega) | exact (show _ < _ by omega) | exact (show ¬ _ by omega) | refine And.intro ?_ ?_
      all_goals first | exact pureI | exact pureRec
theorem l12Open_c (s : List UInt8) (hs : s.length ≤ 1000000) : C 51 [.str s] [] (.tuple [.loc 0, i64 (atB s (cntB s))]) [rowE (recsB s)] false := by
  refine mkC false false Tryd.func51 rfl ?_
  refine And.intro nofun ?_
  iterate 2 refine Z ?_
  rotate_left
  refine loop_up (β := Nat) (fun j => [(4, .loc 0), (5, i64 (atB s j))]) (fun j => [(0, rowE (recsTo s j))]) [2] (fun j => j ≤ 60 ∧ ∀ i < j, goodB s i) (fun j => 60 - j) (0) ?_ ?_ ?_
  · exact ⟨by omega, fun i hi => by omega⟩
  · refine weak.mk [2] [0] rfl rfl ?_ ?_
    repeat' first | exact trivial | exact rfl | exact Iff.rfl | assumption | exact pureI | exact (show _ = _ by omega) | exact (show _ ≤ _ by omega) | exact (show _ < _ by omega) | exact (show ¬ _ by omega) | refine And.intro ?_ ?_
  · rintro j ⟨hj, hg⟩ R hR
    have hat := at_le hg
    have hlr : (List.map rcv (recsTo s j)).length = j := by simp
    by_cases h60 : j < 60
    · obtain ⟨W, hW⟩ : ∃ W, s.drop (atB s j) = W := ⟨_, rfl⟩
      have hWl : W.length = s.length - atB s j := by rw [← hW]; simp
      have sA : List.drop (atB s j) (List.take s.length s) = W := by rw [List.take_length]; exact hW
      have hbl := bef_le 10 W
      have hs1 := splitB_len 10 W
      have e1 : (splitB 10 W)[0]'(splitB_len 10 W).2 = bef 10 W := splitB_at 10 W
      have hmany := splitB_many 10 W
      by_cases hend : atB s j < s.length
      · by_cases hm : (10 : UInt8) ∈ W
        · have hWb := bef_len hm
          have hmn : ¬ (splitB 10 W).length < 2 := fun h => hmany.1 h hm
          by_cases hok : okL2 (j : Int) (bef 10 W)
          · refine lenS.mk _ rfl ?_
            refine tY (by first | omega | assumption | exact rfl | exact Iff.rfl) ?_
            refine (lenP.mk j hlr) ?_
            refine tY (by first | omega | assumption | exact rfl | exact Iff.rfl) ?_
            refine jk (by omega) ?_
            refine eqS.mk _ sA ?_
            refine callW.mk [] 1 _ _ _ ((l1Split_c W (by omega) 10 10 rfl)) rfl rfl (by repeat' first | exact trivial | assumption | exact knownSS | exact knownApp knownSS knownNil | refine And.intro ?_ ?_) nofun ?_
            iterate 2 refine Z ?_
            refine idxN.mk 0 (by omega) (by simp; omega) rfl ?_
            refine gmv (by omega) e1 ?_
            refine (lenP.mk j hlr) ?_
            refine callW.mk [] 2 _ _ _ ((l12Decode_cY (bef 10 W) (by omega) (j : Int) (by omega) (by omega) hok)) rfl rfl (by repeat' first | exact trivial | assumption | exact knownSS | exact knownApp knownSS knownNil | refine And.intro ?_ ?_) nofun ?_
            iterate 5 refine Z ?_
            refine lm ?_
            refine tN (by first | omega | assumption | exact fun h => h (by assumption) | exact fun h => h rfl | exact fun h => h Iff.rfl) ?_
            iterate 10 refine Z ?_
            refine leP.mk (by first | (simp [big]; omega) | (simp [big]; done)) ?_
            refine er ?_
            iterate 2 refine Z ?_
            refine idxN.mk 0 (by omega) (by simp; omega) rfl ?_
            refine gmv (by omega) e1 ?_
            refine lenS.mk _ rfl ?_
            iterate 2 refine nw (by omega) (by omega) ?_
            rotate_left
            refine hR (j + 1) _ _ ?_ ?_
            rotate_left
            refine weak.mk [] [4] rfl rfl ?_ ?_
            repeat' first | exact trivial | exact rfl | exact Iff.rfl | assumption | exact pureI | exact (show _ = _ by omega) | exact (show _ ≤ _ by omega) | exact (show _ < _ by omega) | exact (show ¬ _ by omega) | refine And.intro ?_ ?_
            rotate_right
            all_goals first
              | exact at_num2 hW
              | exact map_more (f := rcv) (recs_more hW)
              | exact ⟨⟨by omega, good_more hg ((good_at hW).2 ⟨hm, hok⟩)⟩, by omega⟩
              | exact pureRec
          · have e : cntB s = j := cnt_stop hj hg fun h => hok ((good_at hW).1 h).2
            rw [recsB_eq e, e]
            refine lenS.mk _ rfl ?_
            refine tY (by first | omega | assumption | exact rfl | exact Iff.rfl) ?_
            refine (lenP.mk j hlr) ?_
            refine tY (by first | omega | assumption | exact rfl | exact Iff.rfl) ?_
            refine jk (by omega) ?_
            refine eqS.mk _ sA ?_
            refine callW.mk [] 1 _ _ _ ((l1Split_c W (by omega) 10 10 rfl)) rfl rfl (by repeat' first | exact trivial | assumption | exact knownSS | exact knownApp knownSS knownNil | refine And.intro ?_ ?_) nofun ?_
            iterate 2 refine Z ?_
            refine idxN.mk 0 (by omega) (by simp; omega) rfl ?_
            refine gmv (by omega) e1 ?_
            refine (lenP.mk j hlr) ?_
            refine callW.mkE [] [] 2 _ _ _ _ ((l12Decode_cN (bef 10 W) (by omega) (j : Int) (by omega) (by omega) hok)) rfl rfl (by repeat' first | exact trivial | assumption | exact knownSS | exact knownApp knownSS knownNil | refine And.intro ?_ ?_) nofun (fun _ _ => ?_)
            iterate 5 refine Z ?_
            refine lm ?_
            refine tN (by first | omega | assumption | exact fun h => h (by assumption) | exact fun h => h rfl | exact fun h => h Iff.rfl) ?_
            rotate_left
            refine doneV.mk [] [0] rfl rfl ?_ ?_ ?_
            repeat' first | exact trivial | exact rfl | exact Iff.rfl | assumption | exact pureI | exact (show _ = _ by omega) | exact (show _ ≤ _ by omega) | exact (show _ < _ by omega) | exact (show ¬ _ by omega) | refine And.intro ?_ ?_
            all_goals exact pureRec
        · have hmn : (splitB 10 W).length < 2 := hmany.2 hm
          have e : cntB s = j := cnt_stop hj hg fun h => hm ((good_at hW).1 h).1
          rw [recsB_eq e, e]
          by_cases hok : okL2 (j : Int) (bef 10 W)
          · refine lenS.mk _ rfl ?_
            refine tY (by first | omega | assumption | exact rfl | exact Iff.rfl) ?_
            refine (lenP.mk j hlr) ?_
            refine tY (by first | omega | assumption | exact rfl | exact Iff.rfl) ?_
            refine jk (by omega) ?_
            refine eqS.mk _ sA ?_
            refine callW.mk [] 1 _ _ _ ((l1Split_c W (by omega) 10 10 rfl)) rfl rfl (by repeat' first | exact trivial | assumption | exact knownSS | exact knownApp knownSS knownNil | refine And.intro ?_ ?_) nofun ?_
            iterate 2 refine Z ?_
            refine idxN.mk 0 (by omega) (by simp; omega) rfl ?_
            refine gmv (by omega) e1 ?_
            refine (lenP.mk j hlr) ?_
            refine callW.mk [] 2 _ _ _ ((l12Decode_cY (bef 10 W) (by omega) (j : Int) (by omega) (by omega) hok)) rfl rfl (by repeat' first | exact trivial | assumption | exact knownSS | exact knownApp knownSS knownNil | refine And.intro ?_ ?_) nofun ?_
            iterate 5 refine Z ?_
            refine lm ?_
            refine tY (by first | omega | assumption | exact rfl | exact Iff.rfl) ?_
            rotate_left
            refine doneV.mk [] [0] rfl rfl ?_ ?_ ?_
            repeat' first | exact trivial | exact rfl | exact Iff.rfl | assumption | exact pureI | exact (show _ = _ by omega) | exact (show _ ≤ _ by omega) | exact (show _ < _ by omega) | exact (show ¬ _ by omega) | refine And.intro ?_ ?_
            all_goals exact pureRec
          · refine lenS.mk _ rfl ?_
            refine tY (by first | omega | assumption | exact rfl | exact Iff.rfl) ?_
            refine (lenP.mk j hlr) ?_
            refine tY (by first | omega | assumption | exact rfl | exact Iff.rfl) ?_
            refine jk (by omega) ?_
            refine eqS.mk _ sA ?_
            refine callW.mk [] 1 _ _ _ ((l1Split_c W (by omega) 10 10 rfl)) rfl rfl (by repeat' first | exact trivial | assumption | exact knownSS | exact knownApp knownSS knownNil | refine And.intro ?_ ?_) nofun ?_
            iterate 2 refine Z ?_
            refine idxN.mk 0 (by omega) (by simp; omega) rfl ?_
            refine gmv (by omega) e1 ?_
            refine (lenP.mk j hlr) ?_
            refine callW.mkE [] [] 2 _ _ _ _ ((l12Decode_cN (bef 10 W) (by omega) (j : Int) (by omega) (by omega) hok)) rfl rfl (by repeat' first | exact trivial | assumption | exact knownSS | exact knownApp knownSS knownNil | refine And.intro ?_ ?_) nofun (fun _ _ => ?_)
            iterate 5 refine Z ?_
            refine lm ?_
            refine tY (by first | omega | assumption | exact rfl | exact Iff.rfl) ?_
            rotate_left
            refine doneV.mk [] [0] rfl rfl ?_ ?_ ?_
            repeat' first | exact trivial | exact rfl | exact Iff.rfl | assumption | exact pureI | exact (show _ = _ by omega) | exact (show _ ≤ _ by omega) | exact (show _ < _ by omega) | exact (show ¬ _ by omega) | refine And.intro ?_ ?_
            all_goals exact pureRec
      · have hm : (10 : UInt8) ∉ W := fun h => by
          have := List.length_pos_of_mem h
          omega
        have e : cntB s = j := cnt_stop hj hg fun h => hm ((good_at hW).1 h).1
        rw [recsB_eq e, e]
        refine lenS.mk _ rfl ?_
        refine tN (by first | omega | assumption | exact fun h => h (by assumption) | exact fun h => h rfl | exact fun h => h Iff.rfl) ?_
        rotate_left
        refine doneV.mk [] [0] rfl rfl ?_ ?_ ?_
        repeat' first | exact trivial | exact rfl | exact Iff.rfl | assumption | exact pureI | exact (show _ = _ by omega) | exact (show _ ≤ _ by omega) | exact (show _ < _ by omega) | exact (show ¬ _ by omega) | refine And.intro ?_ ?_
        all_goals exact pureRec
    · have e : cntB s = j := by
        have : j = 60 := by omega
        subst this
        exact cnt_full hg
      rw [recsB_eq e, e]
      refine lenS.mk _ rfl ?_
      refine twoP.mk (fun _ => ?_) (fun _ => ?_)
      refine (lenP.mk j hlr) ?_
      refine tN (by first | omega | assumption | exact fun h => h (by assumption) | exact fun h => h rfl | exact fun h => h Iff.rfl) ?_
      iterate 2 rotate_left
      · refine doneV.mk [] [0] rfl rfl ?_ ?_ ?_
        repeat' first | exact trivial | exact rfl | exact Iff.rfl | assumption | exact pureI | exact (show _ = _ by omega) | exact (show _ ≤ _ by omega) | exact (show _ < _ by omega) | exact (show ¬ _ by omega) | refine And.intro ?_ ?_
        all_goals exact pureRec
      · refine doneV.mk [] [0] rfl rfl ?_ ?_ ?_
        repeat' first | exact trivial | exact rfl | exact Iff.rfl | assumption | exact pureI | exact (show _ = _ by omega) | exact (show _ ≤ _ by omega) | exact (show _ < _ by omega) | exact (show ¬ _ by omega) | refine And.intro ?_ ?_
        all_goals exact pureRec
end Sx
