/- Contracts: the laws of records coded and logs recovered. -/
import Derived.Test.YtfhklahhkjahiaaDoorCLc
import Derived.Test.YtfhklahhkjahiaaDoorCw
set_option linter.all false
namespace Sx
open Go Go.Proofs
set_option maxRecDepth 100000
set_option maxHeartbeats 4000000
set_option linter.unusedSimpArgs false
set_option linter.unusedSectionVars false
variable [Glb]
variable [HasTab]
theorem FnExactEncodeRecord_c (k : Int) (c r : List UInt8) (hc : fitS c) (hr : fitS r) : C 3 [i64 k, rec2 c r] [] .tt [] false := by
  have hc' : c.length ≤ 9223372036854775807 := hc
  have hr' : r.length ≤ 9223372036854775807 := hr
  refine mkC false false Tryd.func3 rfl ?_
  refine And.intro nofun ?_
  by_cases hk : 1048576 < (c.length : Int) + (r.length : Int)
  · have hs := szLogRecord_c c r hc hr _ rfl
    rw [if_pos hk] at hs
    refine Z ?_
    refine callW.mk [] 1 _ _ _ (hs) rfl rfl (by repeat' first | exact trivial | assumption | exact knownSS | exact knownApp knownSS knownNil | refine And.intro ?_ ?_) nofun ?_
    refine tY (by first | omega | assumption | exact rfl | exact Iff.rfl) ?_
    rotate_left
    refine doneV.mk [] [] rfl rfl ?_ ?_ ?_
    repeat' first | exact trivial | exact rfl | exact Iff.rfl | assumption | exact pureI | exact (show _ = _ by omega) | exact (show _ ≤ _ by omega) | exact (show _ < _ by omega) | exact (show ¬ _ by omega) | refine And.intro ?_ ?_
  · have hs := szLogRecord_c c r hc hr _ rfl
    rw [if_neg hk] at hs
    refine Z ?_
    refine callW.mk [] 1 _ _ _ (hs) rfl rfl (by repeat' first | exact trivial | assumption | exact knownSS | exact knownApp knownSS knownNil | refine And.intro ?_ ?_) nofun ?_
    refine tN (by first | omega | assumption | exact fun h => h (by assumption) | exact fun h => h rfl | exact fun h => h Iff.rfl) ?_
    refine callW.mk [] 1 _ _ _ (toLogRecord_c _ _) rfl rfl trivial nofun ?_
    refine callW.mk [] 1 _ _ _ (sEncodeRecord_c _ _ _ (by first | omega | assumption | (simp; omega) | (simp; done)) (by first | omega | assumption | (simp; omega) | (simp; done))) rfl rfl trivial nofun ?_
    refine callW.mk [] 1 _ _ _ (toLogRecord_c _ _) rfl rfl trivial nofun ?_
    refine callW.mk [] 1 _ _ _ (EncodeRecord_c _ _ _ (by first | omega | assumption | (simp; omega) | (simp; done)) (by first | omega | assumption | (simp; omega) | (simp; done))) rfl rfl trivial nofun ?_
    iterate 2 refine tN (by first | omega | assumption | exact fun h => h (by assumption) | exact fun h => h rfl | exact fun h => h Iff.rfl) ?_
    rotate_left
    refine doneV.mk [] [] rfl rfl ?_ ?_ ?_
    repeat' first | exact trivial | exact rfl | exact Iff.rfl | assumption | exact pureI | exact (show _ = _ by omega) | exact (show _ ≤ _ by omega) | exact (show _ < _ by omega) | exact (show ¬ _ by omega) | refine And.intro ?_ ?_
theorem eqLogs_c (a b : List UInt8) (n : Int) (c d : List UInt8) (m : Int) : C 18 [.agg [.str a, .str b, i64 n], .agg [.str c, .str d, i64 m]] [] (pr (a = c ∧ b = d ∧ n = m)) [] false := by
  refine mkC false false Tryd.func18 rfl ?_
  refine And.intro nofun ?_
  iterate 4 refine Z ?_
  refine twoN (fun _ => ?_) (fun _ => ?_)
  rotate_left
  iterate 2 refine Z ?_
  refine twoN (fun _ => ?_) (fun _ => ?_)
  rotate_left
  iterate 2 refine Z ?_
  refine twoN (fun _ => ?_) (fun _ => ?_)
  iterate 2 rotate_left
  · rename_i h1
    refine dv0 rfl ?_
    exact (show ¬ _ from fun h => h1 h.1)
  · rename_i h1 h2
    refine dv0 rfl ?_
    exact (show ¬ _ from fun h => h2 h.2.1)
  · rename_i h1 h2 h3
    refine dv0 rfl ?_
    exact (show ¬ _ from fun h => h3 h.2.2)
  · rename_i h1 h2 h3
    refine dv0 rfl ?_
    exact ⟨h1, h2, h3⟩
theorem RecoverLog_c (s : List UInt8) (hs : s.length ≤ 1048576) : C 17 [.str s] [] (.tuple [.agg [.str (rcvS s), .str [], i64 (rcvC s)], i64 (rcvN s), pr (s.length ≤ 30000)]) [] false := by
  have hspec := cnt_spec s
  have hat := at_le hspec.2.1
  have hlr : (List.map rcv (recsB s)).length = cntB s := by simp [recsB]
  have hle : (List.map i64 (endsB s)).length = cntB s + 1 := by simp [endsB]
  have hg : (endsB s)[cntB s]'(by simp [endsB]) = (atB s (cntB s) : Int) := by simp [endsB]
  have s1 : List.drop 0 (List.take (atB s (cntB s)) s) = s.take (atB s (cntB s)) := rfl
  refine mkC false false Tryd.func17 rfl ?_
  refine And.intro nofun ?_
  by_cases hl : s.length ≤ 30000
  · rw [rcvS_yes hl, rcvC_yes hl, rcvN_yes hl]
    refine Z ?_
    refine lenS.mk _ rfl ?_
    refine tN (by first | omega | assumption | exact fun h => h (by assumption) | exact fun h => h rfl | exact fun h => h Iff.rfl) ?_
    refine callW.mk [] 1 _ _ _ ((readRecords_c s (by omega))) rfl rfl (by repeat' first | exact trivial | assumption | exact knownSS | exact knownApp knownSS knownNil | refine And.intro ?_ ?_) nofun ?_
    refine (lenP.mk (cntB s) hlr) ?_
    iterate 2 refine Z ?_
    refine jk (by omega) ?_
    refine gmv (by omega) hg ?_
    refine jk (by omega) ?_
    refine eqS.mk _ s1 ?_
    refine (lenP.mk (cntB s) hlr) ?_
    iterate 14 refine Z ?_
    rotate_left
    refine doneV.mk [] [] rfl rfl ?_ ?_ ?_
    repeat' first | exact trivial | exact rfl | exact Iff.rfl | assumption | exact pureI | exact (show _ = _ by omega) | exact (show _ ≤ _ by omega) | exact (show _ < _ by omega) | exact (show ¬ _ by omega) | refine And.intro ?_ ?_
    all_goals first | exact hl | exact rfl
  · rw [rcvS_no hl, rcvC_no hl, rcvN_no hl]
    refine Z ?_
    refine lenS.mk _ rfl ?_
    refine tY (by first | omega | assumption | exact rfl | exact Iff.rfl) ?_
    iterate 5 refine Z ?_
    rotate_left
    refine doneV.mk [] [] rfl rfl ?_ ?_ ?_
    repeat' first | exact trivial | exact rfl | exact Iff.rfl | assumption | exact pureI | exact (show _ = _ by omega) | exact (show _ ≤ _ by omega) | exact (show _ < _ by omega) | exact (show ¬ _ by omega) | refine And.intro ?_ ?_
    all_goals first | exact hl | exact rfl
theorem sRecoverLog_c (s : List UInt8) (hs : s.length ≤ 1048576) : C 16 [.str s] [] (.tuple [.agg [.str (rcvS s), .str [], i64 (rcvC s)], i64 (rcvN s), pr (s.length ≤ 30000)]) [] false := by
  have hspec := cnt_spec s
  have hat := at_le hspec.2.1
  have hlr : (List.map rcv (recsB s)).length = cntB s := by simp [recsB]
  have s1 : List.drop 0 (List.take (atB s (cntB s)) s) = s.take (atB s (cntB s)) := rfl
  refine mkC false false Tryd.func16 rfl ?_
  refine And.intro nofun ?_
  by_cases hl : s.length ≤ 30000
  · rw [rcvS_yes hl, rcvC_yes hl, rcvN_yes hl]
    refine Z ?_
    refine lenS.mk _ rfl ?_
    refine tN (by first | omega | assumption | exact fun h => h (by assumption) | exact fun h => h rfl | exact fun h => h Iff.rfl) ?_
    refine callW.mk [] 1 _ _ _ ((l12Open_c s (by omega))) rfl rfl (by repeat' first | exact trivial | assumption | exact knownSS | exact knownApp knownSS knownNil | refine And.intro ?_ ?_) nofun ?_
    refine jk (by omega) ?_
    refine eqS.mk _ s1 ?_
    refine (lenP.mk (cntB s) hlr) ?_
    iterate 11 refine Z ?_
    rotate_left
    refine doneV.mk [] [] rfl rfl ?_ ?_ ?_
    repeat' first | exact trivial | exact rfl | exact Iff.rfl | assumption | exact pureI | exact (show _ = _ by omega) | exact (show _ ≤ _ by omega) | exact (show _ < _ by omega) | exact (show ¬ _ by omega) | refine And.intro ?_ ?_
    all_goals first | exact hl | exact rfl
  · rw [rcvS_no hl, rcvC_no hl, rcvN_no hl]
    refine Z ?_
    refine lenS.mk _ rfl ?_
    refine tY (by first | omega | assumption | exact rfl | exact Iff.rfl) ?_
    iterate 5 refine Z ?_
    rotate_left
    refine doneV.mk [] [] rfl rfl ?_ ?_ ?_
    repeat' first | exact trivial | exact rfl | exact Iff.rfl | assumption | exact pureI | exact (show _ = _ by omega) | exact (show _ ≤ _ by omega) | exact (show _ < _ by omega) | exact (show ¬ _ by omega) | refine And.intro ?_ ?_
    all_goals first | exact hl | exact rfl
theorem FnExactRecoverLog_c (s : List UInt8) (hs : fitS s) : C 4 [.str s] [] .tt [] false := by
  have hs' : s.length ≤ 9223372036854775807 := hs
  refine mkC false false Tryd.func4 rfl ?_
  refine And.intro nofun ?_
  by_cases hl : (s.length : Int) ≤ 1048576
  · refine lenS.mk _ rfl ?_
    refine tN (by first | omega | assumption | exact fun h => h (by assumption) | exact fun h => h rfl | exact fun h => h Iff.rfl) ?_
    refine callW.mk [] 0 _ _ _ ((sRecoverLog_c s (by omega))) rfl rfl (by repeat' first | exact trivial | assumption | exact knownSS | exact knownApp knownSS knownNil | refine And.intro ?_ ?_) nofun ?_
    iterate 5 refine Z ?_
    refine callW.mk [] 1 _ _ _ ((RecoverLog_c s (by omega))) rfl rfl (by repeat' first | exact trivial | assumption | exact knownSS | exact knownApp knownSS knownNil | refine And.intro ?_ ?_) nofun ?_
    iterate 5 refine Z ?_
    refine callW.mk [] 2 _ _ _ (eqLogs_c _ _ _ _ _ _) rfl rfl trivial nofun ?_
    refine twoN (fun _ => ?_) (fun _ => ?_)
    rotate_left
    iterate 2 refine tN (by first | omega | assumption | exact fun h => h (by assumption) | exact fun h => h rfl | exact fun h => h Iff.rfl) ?_
    rotate_left
    · rename_i h
      exact (h ⟨rfl, rfl, rfl⟩).elim
    · refine doneV.mk [] [] rfl rfl ?_ ?_ ?_
      repeat' first | exact trivial | exact rfl | exact Iff.rfl | assumption | exact pureI | exact (show _ = _ by omega) | exact (show _ ≤ _ by omega) | exact (show _ < _ by omega) | exact (show ¬ _ by omega) | refine And.intro ?_ ?_
  · refine lenS.mk _ rfl ?_
    refine tY (by first | omega | assumption | exact rfl | exact Iff.rfl) ?_
    rotate_left
    refine doneV.mk [] [] rfl rfl ?_ ?_ ?_
    repeat' first | exact trivial | exact rfl | exact Iff.rfl | assumption | exact pureI | exact (show _ = _ by omega) | exact (show _ ≤ _ by omega) | exact (show _ < _ by omega) | exact (show ¬ _ by omega) | refine And.intro ?_ ?_
end Sx
