/- Contracts: valid logs. -/
import Derived.Test.YtfhklahhkjahiaaDoorCLd
import Derived.Test.YtfhklahhkjahiaaDoorMxR
set_option linter.all false
namespace Sx
open Go Go.Proofs
set_option maxRecDepth 100000
set_option maxHeartbeats 4000000
set_option linter.unusedSimpArgs false
set_option linter.unusedSectionVars false
variable [Glb]
variable [HasTab]
theorem l12Valid_c (D P : List UInt8) (n : Int) (hD : D.length ≤ 1048576) (hP : P.length ≤ 1048576) : C 53 [lgv D P n] [] (pr (logOk D P n)) [] false := by
  have hlr : (List.map rcv (recsB (D ++ P))).length = cntB (D ++ P) := by simp [recsB]
  have s0 : D ++ P = D ++ P := rfl
  have hl : (D ++ P).length = D.length + P.length := List.length_append
  refine mkC false false Tryd.func53 rfl ?_
  refine And.intro nofun ?_
  iterate 2 refine Z ?_
  refine lenS.mk _ rfl ?_
  refine Z ?_
  refine lenS.mk _ rfl ?_
  refine nw (by omega) (by omega) ?_
  refine twoP.mk (fun _ => ?_) (fun _ => ?_)
  rotate_left
  iterate 2 refine Z ?_
  refine And.intro (by omega) ?_
  refine eqS.mk _ s0 ?_
  refine callW.mk [] 1 _ _ _ ((l12Open_c (D ++ P) (by omega))) rfl rfl (by repeat' first | exact trivial | assumption | exact knownSS | exact knownApp knownSS knownNil | refine And.intro ?_ ?_) nofun ?_
  refine Z ?_
  refine callW.mk [] 2 _ _ _ ((l12Open_c D (by omega))) rfl rfl (by repeat' first | exact trivial | assumption | exact knownSS | exact knownApp knownSS knownNil | refine And.intro ?_ ?_) nofun ?_
  refine Z ?_
  refine lenS.mk _ rfl ?_
  refine Z ?_
  refine lenS.mk _ rfl ?_
  refine nw (by omega) (by omega) ?_
  refine twoP.mk (fun _ => ?_) (fun _ => ?_)
  refine Z ?_
  refine lenS.mk _ rfl ?_
  refine twoP.mk (fun _ => ?_) (fun _ => ?_)
  refine (lenP.mk (cntB (D ++ P)) hlr) ?_
  refine Z ?_
  iterate 3 rotate_left
  · rename_i h1
    refine doneV.mk [] [] rfl rfl ?_ ?_ ?_
    repeat' first | exact trivial | exact rfl | exact Iff.rfl | assumption | exact pureI | exact (show _ = _ by omega) | exact (show _ ≤ _ by omega) | exact (show _ < _ by omega) | exact (show ¬ _ by omega) | refine And.intro ?_ ?_
    exact fun h => by have := h.1; omega
  · rename_i h1 h2 h3
    refine doneV.mk [] [] rfl rfl ?_ ?_ ?_
    repeat' first | exact trivial | exact rfl | exact Iff.rfl | assumption | exact pureI | exact (show _ = _ by omega) | exact (show _ ≤ _ by omega) | exact (show _ < _ by omega) | exact (show ¬ _ by omega) | refine And.intro ?_ ?_
    exact (show _ ↔ _ from ⟨fun h => ⟨by omega, h2, h3, h⟩, fun h => h.2.2.2⟩)
  · rename_i h1 h2 h3
    refine doneV.mk [] [] rfl rfl ?_ ?_ ?_
    repeat' first | exact trivial | exact rfl | exact Iff.rfl | assumption | exact pureI | exact (show _ = _ by omega) | exact (show _ ≤ _ by omega) | exact (show _ < _ by omega) | exact (show ¬ _ by omega) | refine And.intro ?_ ?_
    exact fun h => h3 h.2.2.1
  · rename_i h1 h2
    refine doneV.mk [] [] rfl rfl ?_ ?_ ?_
    repeat' first | exact trivial | exact rfl | exact Iff.rfl | assumption | exact pureI | exact (show _ = _ by omega) | exact (show _ ≤ _ by omega) | exact (show _ < _ by omega) | exact (show ¬ _ by omega) | refine And.intro ?_ ?_
    exact fun h => h2 h.2.1
theorem IsValidLog_c (D P : List UInt8) (n : Int) (hD : D.length ≤ 1048576) (hP : P.length ≤ 1048576) : C 22 [lgv D P n] [] (pr (logOk D P n)) [] false := by
  have hlr : (List.map rcv (recsB (D ++ P))).length = cntB (D ++ P) := by simp [recsB]
  have hle : (List.map i64 (endsB (D ++ P))).length = cntB (D ++ P) + 1 := by simp [endsB]
  have hg : (endsB (D ++ P))[cntB (D ++ P)]'(by simp [endsB]) = (atB (D ++ P) (cntB (D ++ P)) : Int) := by simp [endsB]
  have hs := cnt_spec (D ++ P)
  have hel : (endsB (D ++ P)).length = cntB (D ++ P) + 1 := by simp [endsB]
  have s0 : D ++ P = D ++ P := rfl
  have hl : (D ++ P).length = D.length + P.length := List.length_append
  refine mkC false false Tryd.func22 rfl ?_
  refine And.intro nofun ?_
  iterate 2 refine Z ?_
  refine lenS.mk _ rfl ?_
  refine Z ?_
  refine lenS.mk _ rfl ?_
  refine nw (by omega) (by omega) ?_
  refine twoP.mk (fun _ => ?_) (fun _ => ?_)
  rotate_left
  iterate 2 refine Z ?_
  refine And.intro (by omega) ?_
  refine eqS.mk _ s0 ?_
  refine callW.mk [] 1 _ _ _ ((readRecords_c (D ++ P) (by omega))) rfl rfl (by repeat' first | exact trivial | assumption | exact knownSS | exact knownApp knownSS knownNil | refine And.intro ?_ ?_) nofun ?_
  refine drawP.mk 28 (Z (Z (Z (Z ?_))))
  apply exP.mk
  exact rfl
  apply exP.mk
  exact rfl
  apply exP.mk
  refine (lenP.mk (cntB (D ++ P)) hlr) ?_
  exact rfl
  apply exP.mk
  iterate 2 refine Z ?_
  refine jkm (by omega) ?_
  exact rfl
  apply exP.mk
  refine gmv (by omega) hg ?_
  exact rfl
  apply exP.mk
  refine Z ?_
  exact rfl
  apply exP.mk
  exact rfl
  apply exP.mk
  refine lenS.mk _ rfl ?_
  exact rfl
  apply exP.mk
  refine Z ?_
  exact rfl
  apply exP.mk
  exact rfl
  apply exP.mk
  refine lenS.mk _ rfl ?_
  exact rfl
  apply exP.mk
  refine nw (by omega) (by omega) ?_
  exact rfl
  apply exP.mk
  exact rfl
  apply exP.mk
  exact rfl
  refine twoP.mk (fun _ => ?_) (fun _ => ?_)
  apply exP.mk
  refine Z ?_
  exact rfl
  apply exP.mk
  exact rfl
  apply exP.mk
  exact rfl
  apply exP.mk
  refine (lenP.mk (cntB (D ++ P)) hlr) ?_
  exact rfl
  apply exP.mk
  exact rfl
  apply exP.mk
  exact rfl
  refine twoP.mk (fun _ => ?_) (fun _ => ?_)
  apply exP.mk
  exact rfl
  apply exP.mk
  refine Z ?_
  exact rfl
  apply exP.mk
  exact rfl
  apply exP.mk
  refine lenS.mk _ rfl ?_
  exact rfl
  apply exP.mk
  refine callP.mk _ _ _ ((Contains_c (endsB (D ++ P)) (by omega) (D.length : Int))) (by repeat' first | exact trivial | assumption | exact knownSS | exact knownApp knownSS knownNil | refine And.intro ?_ ?_) nofun trivial ?_
  exact rfl
  apply exP.mk
  exact rfl
  rotate_left
  apply exP.mk
  exact rfl
  rotate_left
  apply exP.mk
  exact rfl
  apply exP.mk
  exact rfl
  rotate_left
  · rename_i h1
    refine doneV.mk [] [] rfl rfl ?_ ?_ ?_
    repeat' first | exact trivial | exact rfl | exact Iff.rfl | assumption | exact pureI | exact (show _ = _ by omega) | exact (show _ ≤ _ by omega) | exact (show _ < _ by omega) | exact (show ¬ _ by omega) | refine And.intro ?_ ?_
    exact fun h => by have := h.1; omega
  · rename_i h1 h2 h3
    refine doneV.mk [] [] rfl rfl ?_ ?_ ?_
    repeat' first | exact trivial | exact rfl | exact Iff.rfl | assumption | exact pureI | exact (show _ = _ by omega) | exact (show _ ≤ _ by omega) | exact (show _ < _ by omega) | exact (show ¬ _ by omega) | refine And.intro ?_ ?_
    exact ends_iff.trans (show _ ↔ _ from ⟨fun h => ⟨by omega, h2, by omega, h3.symm⟩, fun h => by have := h.2.2.1; omega⟩)
  · rename_i h1 h2 h3
    refine doneV.mk [] [] rfl rfl ?_ ?_ ?_
    repeat' first | exact trivial | exact rfl | exact Iff.rfl | assumption | exact pureI | exact (show _ = _ by omega) | exact (show _ ≤ _ by omega) | exact (show _ < _ by omega) | exact (show ¬ _ by omega) | refine And.intro ?_ ?_
    exact fun h => h3 h.2.2.2.symm
  · rename_i h1 h2
    refine doneV.mk [] [] rfl rfl ?_ ?_ ?_
    repeat' first | exact trivial | exact rfl | exact Iff.rfl | assumption | exact pureI | exact (show _ = _ by omega) | exact (show _ ≤ _ by omega) | exact (show _ < _ by omega) | exact (show ¬ _ by omega) | refine And.intro ?_ ?_
    exact fun h => h2 h.2.1
theorem toLog_c (D P : List UInt8) (n : Int) : C 21 [lgv D P n] [] (lgv D P n) [] false := by
  refine mkC false false Tryd.func21 rfl ?_
  refine And.intro nofun ?_
  iterate 25 refine Z ?_
  rotate_left
  refine doneV.mk [] [] rfl rfl ?_ ?_ ?_
  repeat' first | exact trivial | exact rfl | exact Iff.rfl | assumption | exact pureI | exact (show _ = _ by omega) | exact (show _ ≤ _ by omega) | exact (show _ < _ by omega) | exact (show ¬ _ by omega) | refine And.intro ?_ ?_
theorem szLog_c (c r : List UInt8) (n : Int) (hc : fitS c) (hr : fitS r) (l : Int) (hl : l = 1048576) : C 19 [lgv c r n, i64 l] [] (i64 (if 1048576 < (c.length : Int) + (r.length : Int) then -1 else 1048576 - c.length - r.length)) [] false := by
  subst hl
  have hc : c.length ≤ 9223372036854775807 := hc
  have hr : r.length ≤ 9223372036854775807 := hr
  refine mkC false false Tryd.func19 rfl ?_
  refine And.intro nofun ?_
  iterate 2 refine Z ?_
  refine lenS.mk _ rfl ?_
  refine nw (by omega) (by omega) ?_
  refine twoP.mk (fun _ => ?_) (fun _ => ?_)
  rotate_left
  refine Z ?_
  refine lenS.mk _ rfl ?_
  refine nw (by omega) (by omega) ?_
  refine twoP.mk (fun _ => ?_) (fun _ => ?_)
  iterate 2 rotate_left
  · rw [if_pos (by omega)]
    refine doneV.mk [] [] rfl rfl ?_ ?_ ?_
    repeat' first | exact trivial | exact rfl | exact Iff.rfl | assumption | exact pureI | exact (show _ = _ by omega) | exact (show _ ≤ _ by omega) | exact (show _ < _ by omega) | exact (show ¬ _ by omega) | refine And.intro ?_ ?_
  · rw [if_pos (by omega)]
    refine doneV.mk [] [] rfl rfl ?_ ?_ ?_
    repeat' first | exact trivial | exact rfl | exact Iff.rfl | assumption | exact pureI | exact (show _ = _ by omega) | exact (show _ ≤ _ by omega) | exact (show _ < _ by omega) | exact (show ¬ _ by omega) | refine And.intro ?_ ?_
  · rw [if_neg (by omega)]
    refine doneV.mk [] [] rfl rfl ?_ ?_ ?_
    repeat' first | exact trivial | exact rfl | exact Iff.rfl | assumption | exact pureI | exact (show _ = _ by omega) | exact (show _ ≤ _ by omega) | exact (show _ < _ by omega) | exact (show ¬ _ by omega) | refine And.intro ?_ ?_
theorem specIsValidLog_c (D P : List UInt8) (n : Int) (hD : D.length ≤ 1048576) (hP : P.length ≤ 1048576) : C 20 [lgv D P n] [] (pr (logOk D P n)) [] false := by
  refine mkC false false Tryd.func20 rfl ?_
  refine And.intro nofun ?_
  refine Z ?_
  refine callW.mk [] 1 _ _ _ (l12Valid_c _ _ _ (by first | omega | assumption | (simp; omega) | (simp; done)) (by first | omega | assumption | (simp; omega) | (simp; done))) rfl rfl trivial nofun ?_
  rotate_left
  refine doneV.mk [] [] rfl rfl ?_ ?_ ?_
  repeat' first | exact trivial | exact rfl | exact Iff.rfl | assumption | exact pureI | exact (show _ = _ by omega) | exact (show _ ≤ _ by omega) | exact (show _ < _ by omega) | exact (show ¬ _ by omega) | refine And.intro ?_ ?_
theorem FnExactIsValidLog_c (D P : List UInt8) (n : Int) (hD : fitS D) (hP : fitS P) : C 5 [lgv D P n] [] .tt [] false := by
  refine mkC false false Tryd.func5 rfl ?_
  refine And.intro nofun ?_
  by_cases hk : 1048576 < (D.length : Int) + (P.length : Int)
  · have hs := szLog_c D P n hD hP _ rfl
    rw [if_pos hk] at hs
    refine Z ?_
    refine callW.mk [] 1 _ _ _ (hs) rfl rfl (by repeat' first | exact trivial | assumption | exact knownSS | exact knownApp knownSS knownNil | refine And.intro ?_ ?_) nofun ?_
    refine tY (by first | omega | assumption | exact rfl | exact Iff.rfl) ?_
    rotate_left
    refine doneV.mk [] [] rfl rfl ?_ ?_ ?_
    repeat' first | exact trivial | exact rfl | exact Iff.rfl | assumption | exact pureI | exact (show _ = _ by omega) | exact (show _ ≤ _ by omega) | exact (show _ < _ by omega) | exact (show ¬ _ by omega) | refine And.intro ?_ ?_
  · have hs := szLog_c D P n hD hP _ rfl
    rw [if_neg hk] at hs
    have h1 : D.length ≤ 1048576 := by omega
    have h2 : P.length ≤ 1048576 := by omega
    refine Z ?_
    refine callW.mk [] 1 _ _ _ (hs) rfl rfl (by repeat' first | exact trivial | assumption | exact knownSS | exact knownApp knownSS knownNil | refine And.intro ?_ ?_) nofun ?_
    refine tN (by first | omega | assumption | exact fun h => h (by assumption) | exact fun h => h rfl | exact fun h => h Iff.rfl) ?_
    refine callW.mk [] 1 _ _ _ (toLog_c _ _ _) rfl rfl trivial nofun ?_
    refine callW.mk [] 1 _ _ _ (specIsValidLog_c _ _ _ (by first | omega | assumption | (simp; omega) | (simp; done)) (by first | omega | assumption | (simp; omega) | (simp; done))) rfl rfl trivial nofun ?_
    refine callW.mk [] 1 _ _ _ (toLog_c _ _ _) rfl rfl trivial nofun ?_
    refine callW.mk [] 1 _ _ _ (IsValidLog_c _ _ _ (by first | omega | assumption | (simp; omega) | (simp; done)) (by first | omega | assumption | (simp; omega) | (simp; done))) rfl rfl trivial nofun ?_
    refine tN (by first | omega | assumption | exact fun h => h (by assumption) | exact fun h => h rfl | exact fun h => h Iff.rfl) ?_
    rotate_left
    refine doneV.mk [] [] rfl rfl ?_ ?_ ?_
    repeat' first | exact trivial | exact rfl | exact Iff.rfl | assumption | exact pureI | exact (show _ = _ by omega) | exact (show _ ≤ _ by omega) | exact (show _ < _ by omega) | exact (show ¬ _ by omega) | refine And.intro ?_ ?_
theorem sSyncLog_c (D P : List UInt8) (n : Int) (hD : D.length ≤ 1048576) (hP : P.length ≤ 1048576) : C 25 [lgv D P n] [] (.tuple [lgv (if logOk D P n then D ++ P else []) [] (if logOk D P n then n else 0), pr (logOk D P n)]) [] false := by
  have s0 : D ++ P = D ++ P := rfl
  refine mkC false false Tryd.func25 rfl ?_
  refine And.intro nofun ?_
  by_cases h : logOk D P n
  · rw [if_pos h, if_pos h]
    iterate 2 refine Z ?_
    refine callW.mk [] 2 _ _ _ (l12Valid_c _ _ _ (by first | omega | assumption | (simp; omega) | (simp; done)) (by first | omega | assumption | (simp; omega) | (simp; done))) rfl rfl trivial nofun ?_
    refine tN (by first | omega | assumption | exact fun h => h (by assumption) | exact fun h => h rfl | exact fun h => h Iff.rfl) ?_
    iterate 2 refine Z ?_
    refine And.intro (by omega) ?_
    refine eqS.mk _ s0 ?_
    iterate 12 refine Z ?_
    rotate_left
    refine doneV.mk [] [] rfl rfl ?_ ?_ ?_
    repeat' first | exact trivial | exact rfl | exact Iff.rfl | assumption | exact pureI | exact (show _ = _ by omega) | exact (show _ ≤ _ by omega) | exact (show _ < _ by omega) | exact (show ¬ _ by omega) | refine And.intro ?_ ?_
    all_goals first | exact h | exact rfl
  · rw [if_neg h, if_neg h]
    iterate 2 refine Z ?_
    refine callW.mk [] 2 _ _ _ (l12Valid_c _ _ _ (by first | omega | assumption | (simp; omega) | (simp; done)) (by first | omega | assumption | (simp; omega) | (simp; done))) rfl rfl trivial nofun ?_
    refine tY (by first | omega | assumption | exact rfl | exact Iff.rfl) ?_
    iterate 5 refine Z ?_
    rotate_left
    refine doneV.mk [] [] rfl rfl ?_ ?_ ?_
    repeat' first | exact trivial | exact rfl | exact Iff.rfl | assumption | exact pureI | exact (show _ = _ by omega) | exact (show _ ≤ _ by omega) | exact (show _ < _ by omega) | exact (show ¬ _ by omega) | refine And.intro ?_ ?_
    all_goals first | exact h | exact rfl
theorem SyncLog_c (D P : List UInt8) (n : Int) (hD : D.length ≤ 1048576) (hP : P.length ≤ 1048576) : C 26 [lgv D P n] [] (.tuple [lgv (if logOk D P n then D ++ P else []) [] (if logOk D P n then n else 0), pr (logOk D P n)]) [] false := by
  have s0 : D ++ P = D ++ P := rfl
  refine mkC false false Tryd.func26 rfl ?_
  refine And.intro nofun ?_
  by_cases h : logOk D P n
  · rw [if_pos h, if_pos h]
    iterate 2 refine Z ?_
    refine callW.mk [] 2 _ _ _ (IsValidLog_c _ _ _ (by first | omega | assumption | (simp; omega) | (simp; done)) (by first | omega | assumption | (simp; omega) | (simp; done))) rfl rfl trivial nofun ?_
    refine tN (by first | omega | assumption | exact fun h => h (by assumption) | exact fun h => h rfl | exact fun h => h Iff.rfl) ?_
    iterate 2 refine Z ?_
    refine And.intro (by omega) ?_
    refine eqS.mk _ s0 ?_
    iterate 15 refine Z ?_
    rotate_left
    refine doneV.mk [] [] rfl rfl ?_ ?_ ?_
    repeat' first | exact trivial | exact rfl | exact Iff.rfl | assumption | exact pureI | exact (show _ = _ by omega) | exact (show _ ≤ _ by omega) | exact (show _ < _ by omega) | exact (show ¬ _ by omega) | refine And.intro ?_ ?_
    all_goals first | exact h | exact rfl
  · rw [if_neg h, if_neg h]
    iterate 2 refine Z ?_
    refine callW.mk [] 2 _ _ _ (IsValidLog_c _ _ _ (by first | omega | assumption | (simp; omega) | (simp; done)) (by first | omega | assumption | (simp; omega) | (simp; done))) rfl rfl trivial nofun ?_
    refine tY (by first | omega | assumption | exact rfl | exact Iff.rfl) ?_
    iterate 5 refine Z ?_
    rotate_left
    refine doneV.mk [] [] rfl rfl ?_ ?_ ?_
    repeat' first | exact trivial | exact rfl | exact Iff.rfl | assumption | exact pureI | exact (show _ = _ by omega) | exact (show _ ≤ _ by omega) | exact (show _ < _ by omega) | exact (show ¬ _ by omega) | refine And.intro ?_ ?_
    all_goals first | exact h | exact rfl
theorem FnExactSyncLog_c (D P : List UInt8) (n : Int) (hD : fitS D) (hP : fitS P) : C 7 [lgv D P n] [] .tt [] false := by
  refine mkC false false Tryd.func7 rfl ?_
  refine And.intro nofun ?_
  by_cases hk : 1048576 < (D.length : Int) + (P.length : Int)
  · have hs := szLog_c D P n hD hP _ rfl
    rw [if_pos hk] at hs
    refine Z ?_
    refine callW.mk [] 1 _ _ _ (hs) rfl rfl (by repeat' first | exact trivial | assumption | exact knownSS | exact knownApp knownSS knownNil | refine And.intro ?_ ?_) nofun ?_
    refine tY (by first | omega | assumption | exact rfl | exact Iff.rfl) ?_
    rotate_left
    refine doneV.mk [] [] rfl rfl ?_ ?_ ?_
    repeat' first | exact trivial | exact rfl | exact Iff.rfl | assumption | exact pureI | exact (show _ = _ by omega) | exact (show _ ≤ _ by omega) | exact (show _ < _ by omega) | exact (show ¬ _ by omega) | refine And.intro ?_ ?_
  · have hs := szLog_c D P n hD hP _ rfl
    rw [if_neg hk] at hs
    have h1 : D.length ≤ 1048576 := by omega
    have h2 : P.length ≤ 1048576 := by omega
    refine Z ?_
    refine callW.mk [] 1 _ _ _ (hs) rfl rfl (by repeat' first | exact trivial | assumption | exact knownSS | exact knownApp knownSS knownNil | refine And.intro ?_ ?_) nofun ?_
    refine tN (by first | omega | assumption | exact fun h => h (by assumption) | exact fun h => h rfl | exact fun h => h Iff.rfl) ?_
    refine callW.mk [] 1 _ _ _ (toLog_c _ _ _) rfl rfl trivial nofun ?_
    refine callW.mk [] 1 _ _ _ (sSyncLog_c _ _ _ (by first | omega | assumption | (simp; omega) | (simp; done)) (by first | omega | assumption | (simp; omega) | (simp; done))) rfl rfl trivial nofun ?_
    iterate 5 refine Z ?_
    refine callW.mk [] 2 _ _ _ (toLog_c _ _ _) rfl rfl trivial nofun ?_
    refine callW.mk [] 2 _ _ _ (SyncLog_c _ _ _ (by first | omega | assumption | (simp; omega) | (simp; done)) (by first | omega | assumption | (simp; omega) | (simp; done))) rfl rfl trivial nofun ?_
    iterate 5 refine Z ?_
    refine callW.mk [] 3 _ _ _ (eqLogs_c _ _ _ _ _ _) rfl rfl trivial nofun ?_
    refine twoN (fun _ => ?_) (fun _ => ?_)
    rotate_left
    refine tN (by first | omega | assumption | exact fun h => h (by assumption) | exact fun h => h rfl | exact fun h => h Iff.rfl) ?_
    rotate_left
    · rename_i h
      exact (h ⟨rfl, rfl, rfl⟩).elim
    · refine doneV.mk [] [] rfl rfl ?_ ?_ ?_
      repeat' first | exact trivial | exact rfl | exact Iff.rfl | assumption | exact pureI | exact (show _ = _ by omega) | exact (show _ ≤ _ by omega) | exact (show _ < _ by omega) | exact (show ¬ _ by omega) | refine And.intro ?_ ?_
theorem AppendRecord_c (D P : List UInt8) (n : Int) (c r : List UInt8) (hD : D.length ≤ 1048576) (hP : P.length ≤ 1048576) (hc : c.length ≤ 1099511627) (hr : r.length ≤ 1099511627) : C 28 [lgv D P n, rec2 c r] [] (.tuple [lgv D (apP D P n c r) (apN D P n c r), i64 (apC D P n c r)]) [] false := by
  refine mkC false false Tryd.func28 rfl ?_
  refine And.intro nofun ?_
  unfold apP apN apC
  by_cases h : apOk D P n c r
  · have h1 := logOk_n h.1.1
    have h2 := h.1.1
    have h3 := h.1.2
    have h4 := h.2
    have he : encOk n c r := ⟨by omega, h3⟩
    have hE := EncodeRecord_c n c r hc hr
    rw [if_pos he] at hE
    have hl := line_len (k := n) (by omega) (by omega) h3
    rw [if_pos h, if_pos h, if_pos h]
    iterate 3 refine Z ?_
    refine callW.mk [] 3 _ _ _ (IsValidLog_c _ _ _ (by first | omega | assumption | (simp; omega) | (simp; done)) (by first | omega | assumption | (simp; omega) | (simp; done))) rfl rfl trivial nofun ?_
    refine tN (by first | omega | assumption | exact fun h => h (by assumption) | exact fun h => h rfl | exact fun h => h Iff.rfl) ?_
    refine callW.mk [] 3 _ _ _ (IsValidRecord_c _ _ (by first | omega | assumption | (simp; omega) | (simp; done)) (by first | omega | assumption | (simp; omega) | (simp; done))) rfl rfl trivial nofun ?_
    refine tN (by first | omega | assumption | exact fun h => h (by assumption) | exact fun h => h rfl | exact fun h => h Iff.rfl) ?_
    refine Z ?_
    refine callW.mk [] 3 _ _ _ (hE) rfl rfl (by repeat' first | exact trivial | assumption | exact knownSS | exact knownApp knownSS knownNil | refine And.intro ?_ ?_) nofun ?_
    refine tN (by first | omega | assumption | exact fun h => h (by assumption) | exact fun h => h rfl | exact fun h => h Iff.rfl) ?_
    iterate 2 refine Z ?_
    refine And.intro (by omega) ?_
    refine eqS.mk _ rfl ?_
    refine Z ?_
    refine nw (by omega) (by omega) ?_
    iterate 14 refine Z ?_
    rotate_left
    refine doneV.mk [] [] rfl rfl ?_ ?_ ?_
    repeat' first | exact trivial | exact rfl | exact Iff.rfl | assumption | exact pureI | exact (show _ = _ by omega) | exact (show _ ≤ _ by omega) | exact (show _ < _ by omega) | exact (show ¬ _ by omega) | refine And.intro ?_ ?_
    all_goals exact rfl
  · rw [if_neg h, if_neg h, if_neg h]
    by_cases h2 : logOk D P n ∧ recOk c r
    · rw [if_pos h2]
      have h3 := h2.1
      have h4 := h2.2
      have h5 : n = 60 := by
        by_cases e : n = 60
        · exact e
        · exact (h ⟨h2, e⟩).elim
      have he : ¬ encOk n c r := fun h => by have := h.1; omega
      iterate 3 refine Z ?_
      refine callW.mk [] 3 _ _ _ (IsValidLog_c _ _ _ (by first | omega | assumption | (simp; omega) | (simp; done)) (by first | omega | assumption | (simp; omega) | (simp; done))) rfl rfl trivial nofun ?_
      refine tN (by first | omega | assumption | exact fun h => h (by assumption) | exact fun h => h rfl | exact fun h => h Iff.rfl) ?_
      refine callW.mk [] 3 _ _ _ (IsValidRecord_c _ _ (by first | omega | assumption | (simp; omega) | (simp; done)) (by first | omega | assumption | (simp; omega) | (simp; done))) rfl rfl trivial nofun ?_
      refine tN (by first | omega | assumption | exact fun h => h (by assumption) | exact fun h => h rfl | exact fun h => h Iff.rfl) ?_
      refine Z ?_
      refine callW.mk [] 3 _ _ _ ((EncodeRecord_c n c r hc hr)) rfl rfl (by repeat' first | exact trivial | assumption | exact knownSS | exact knownApp knownSS knownNil | refine And.intro ?_ ?_) nofun ?_
      refine tY (by first | omega | assumption | exact rfl | exact Iff.rfl) ?_
      iterate 4 refine Z ?_
      rotate_left
      refine doneV.mk [] [] rfl rfl ?_ ?_ ?_
      repeat' first | exact trivial | exact rfl | exact Iff.rfl | assumption | exact pureI | exact (show _ = _ by omega) | exact (show _ ≤ _ by omega) | exact (show _ < _ by omega) | exact (show ¬ _ by omega) | refine And.intro ?_ ?_
    · rw [if_neg h2]
      by_cases h3 : logOk D P n
      · have h4 : ¬ recOk c r := fun h => h2 ⟨h3, h⟩
        iterate 3 refine Z ?_
        refine callW.mk [] 3 _ _ _ (IsValidLog_c _ _ _ (by first | omega | assumption | (simp; omega) | (simp; done)) (by first | omega | assumption | (simp; omega) | (simp; done))) rfl rfl trivial nofun ?_
        refine tN (by first | omega | assumption | exact fun h => h (by assumption) | exact fun h => h rfl | exact fun h => h Iff.rfl) ?_
        refine callW.mk [] 3 _ _ _ (IsValidRecord_c _ _ (by first | omega | assumption | (simp; omega) | (simp; done)) (by first | omega | assumption | (simp; omega) | (simp; done))) rfl rfl trivial nofun ?_
        refine tY (by first | omega | assumption | exact rfl | exact Iff.rfl) ?_
        iterate 4 refine Z ?_
        rotate_left
        refine doneV.mk [] [] rfl rfl ?_ ?_ ?_
        repeat' first | exact trivial | exact rfl | exact Iff.rfl | assumption | exact pureI | exact (show _ = _ by omega) | exact (show _ ≤ _ by omega) | exact (show _ < _ by omega) | exact (show ¬ _ by omega) | refine And.intro ?_ ?_
      · iterate 3 refine Z ?_
        refine callW.mk [] 3 _ _ _ (IsValidLog_c _ _ _ (by first | omega | assumption | (simp; omega) | (simp; done)) (by first | omega | assumption | (simp; omega) | (simp; done))) rfl rfl trivial nofun ?_
        refine tY (by first | omega | assumption | exact rfl | exact Iff.rfl) ?_
        iterate 4 refine Z ?_
        rotate_left
        refine doneV.mk [] [] rfl rfl ?_ ?_ ?_
        repeat' first | exact trivial | exact rfl | exact Iff.rfl | assumption | exact pureI | exact (show _ = _ by omega) | exact (show _ ≤ _ by omega) | exact (show _ < _ by omega) | exact (show ¬ _ by omega) | refine And.intro ?_ ?_
theorem sAppendRecord_c (D P : List UInt8) (n : Int) (c r : List UInt8) (hD : D.length ≤ 1048576) (hP : P.length ≤ 1048576) (hc : c.length ≤ 1099511627) (hr : r.length ≤ 1099511627) : C 27 [lgv D P n, rec2 c r] [] (.tuple [lgv D (apP D P n c r) (apN D P n c r), i64 (apC D P n c r)]) [] false := by
  refine mkC false false Tryd.func27 rfl ?_
  refine And.intro nofun ?_
  unfold apP apN apC
  by_cases h : apOk D P n c r
  · have h1 := logOk_n h.1.1
    have h2 := h.1.1
    have h3 := h.1.2
    have h4 := h.2
    have hl := line_len (k := n) (by omega) (by omega) h3
    rw [if_pos h, if_pos h, if_pos h]
    iterate 3 refine Z ?_
    refine callW.mk [] 3 _ _ _ (l12Valid_c _ _ _ (by first | omega | assumption | (simp; omega) | (simp; done)) (by first | omega | assumption | (simp; omega) | (simp; done))) rfl rfl trivial nofun ?_
    refine tN (by first | omega | assumption | exact fun h => h (by assumption) | exact fun h => h rfl | exact fun h => h Iff.rfl) ?_
    refine callW.mk [] 3 _ _ _ (l12Record_c _ _ (by first | omega | assumption | (simp; omega) | (simp; done)) (by first | omega | assumption | (simp; omega) | (simp; done))) rfl rfl trivial nofun ?_
    refine tN (by first | omega | assumption | exact fun h => h (by assumption) | exact fun h => h rfl | exact fun h => h Iff.rfl) ?_
    refine Z ?_
    refine tN (by first | omega | assumption | exact fun h => h (by assumption) | exact fun h => h rfl | exact fun h => h Iff.rfl) ?_
    refine drawP.mkT 8 (Z (Z (Z (Z ?_))))
    apply exP.mk
    refine Z ?_
    exact rfl
    apply exP.mk
    exact rfl
    apply exP.mk
    refine Z ?_
    exact rfl
    apply exP.mk
    exact rfl
    apply exP.mk
    exact rfl
    apply exP.mk
    refine callP.mk _ _ _ ((l12Line_c n c r (by omega) (by omega) h3)) (by repeat' first | exact trivial | assumption | exact knownSS | exact knownApp knownSS knownNil | refine And.intro ?_ ?_) nofun trivial ?_
    exact rfl
    apply exP.mk
    refine And.intro (by omega) ?_
    refine eqS.mk _ rfl ?_
    exact rfl
    apply exP.mk
    refine Z ?_
    exact rfl
    refine And.intro (by repeat' first | exact rfl | refine And.intro ?_ ?_) ?_
    iterate 5 refine Z ?_
    refine nw (by omega) (by omega) ?_
    iterate 9 refine Z ?_
    rotate_left
    refine doneV.mk [] [] rfl rfl ?_ ?_ ?_
    repeat' first | exact trivial | exact rfl | exact Iff.rfl | assumption | exact pureI | exact (show _ = _ by omega) | exact (show _ ≤ _ by omega) | exact (show _ < _ by omega) | exact (show ¬ _ by omega) | refine And.intro ?_ ?_
    all_goals exact rfl
  · rw [if_neg h, if_neg h, if_neg h]
    by_cases h2 : logOk D P n ∧ recOk c r
    · rw [if_pos h2]
      have h3 := h2.1
      have h4 := h2.2
      have h5 : n = 60 := by
        by_cases e : n = 60
        · exact e
        · exact (h ⟨h2, e⟩).elim
      iterate 3 refine Z ?_
      refine callW.mk [] 3 _ _ _ (l12Valid_c _ _ _ (by first | omega | assumption | (simp; omega) | (simp; done)) (by first | omega | assumption | (simp; omega) | (simp; done))) rfl rfl trivial nofun ?_
      refine tN (by first | omega | assumption | exact fun h => h (by assumption) | exact fun h => h rfl | exact fun h => h Iff.rfl) ?_
      refine callW.mk [] 3 _ _ _ (l12Record_c _ _ (by first | omega | assumption | (simp; omega) | (simp; done)) (by first | omega | assumption | (simp; omega) | (simp; done))) rfl rfl trivial nofun ?_
      refine tN (by first | omega | assumption | exact fun h => h (by assumption) | exact fun h => h rfl | exact fun h => h Iff.rfl) ?_
      refine Z ?_
      refine tY (by first | omega | assumption | exact rfl | exact Iff.rfl) ?_
      iterate 4 refine Z ?_
      rotate_left
      refine doneV.mk [] [] rfl rfl ?_ ?_ ?_
      repeat' first | exact trivial | exact rfl | exact Iff.rfl | assumption | exact pureI | exact (show _ = _ by omega) | exact (show _ ≤ _ by omega) | exact (show _ < _ by omega) | exact (show ¬ _ by omega) | refine And.intro ?_ ?_
    · rw [if_neg h2]
      by_cases h3 : logOk D P n
      · have h4 : ¬ recOk c r := fun h => h2 ⟨h3, h⟩
        iterate 3 refine Z ?_
        refine callW.mk [] 3 _ _ _ (l12Valid_c _ _ _ (by first | omega | assumption | (simp; omega) | (simp; done)) (by first | omega | assumption | (simp; omega) | (simp; done))) rfl rfl trivial nofun ?_
        refine tN (by first | omega | assumption | exact fun h => h (by assumption) | exact fun h => h rfl | exact fun h => h Iff.rfl) ?_
        refine callW.mk [] 3 _ _ _ (l12Record_c _ _ (by first | omega | assumption | (simp; omega) | (simp; done)) (by first | omega | assumption | (simp; omega) | (simp; done))) rfl rfl trivial nofun ?_
        refine tY (by first | omega | assumption | exact rfl | exact Iff.rfl) ?_
        iterate 4 refine Z ?_
        rotate_left
        refine doneV.mk [] [] rfl rfl ?_ ?_ ?_
        repeat' first | exact trivial | exact rfl | exact Iff.rfl | assumption | exact pureI | exact (show _ = _ by omega) | exact (show _ ≤ _ by omega) | exact (show _ < _ by omega) | exact (show ¬ _ by omega) | refine And.intro ?_ ?_
      · iterate 3 refine Z ?_
        refine callW.mk [] 3 _ _ _ (l12Valid_c _ _ _ (by first | omega | assumption | (simp; omega) | (simp; done)) (by first | omega | assumption | (simp; omega) | (simp; done))) rfl rfl trivial nofun ?_
        refine tY (by first | omega | assumption | exact rfl | exact Iff.rfl) ?_
        iterate 4 refine Z ?_
        rotate_left
        refine doneV.mk [] [] rfl rfl ?_ ?_ ?_
        repeat' first | exact trivial | exact rfl | exact Iff.rfl | assumption | exact pureI | exact (show _ = _ by omega) | exact (show _ ≤ _ by omega) | exact (show _ < _ by omega) | exact (show ¬ _ by omega) | refine And.intro ?_ ?_
theorem LogRecords_c (D P : List UInt8) (n : Int) (hD : D.length ≤ 1048576) (hP : P.length ≤ 1048576) : C 30 [lgv D P n] [] (.tuple [.loc 0, pr (logOk D P n)]) [rowE (if logOk D P n then recsB (D ++ P) else [])] false := by
  have s0 : D ++ P = D ++ P := rfl
  have hl : (D ++ P).length = D.length + P.length := List.length_append
  refine mkC false false Tryd.func30 rfl ?_
  refine And.intro nofun ?_
  by_cases h : logOk D P n
  · rw [if_pos h]
    have hk := h.1
    refine Z ?_
    refine callW.mk [] 1 _ _ _ (IsValidLog_c _ _ _ (by first | omega | assumption | (simp; omega) | (simp; done)) (by first | omega | assumption | (simp; omega) | (simp; done))) rfl rfl trivial nofun ?_
    refine tN (by first | omega | assumption | exact fun h => h (by assumption) | exact fun h => h rfl | exact fun h => h Iff.rfl) ?_
    iterate 2 refine Z ?_
    refine And.intro (by omega) ?_
    refine eqS.mk _ s0 ?_
    refine callW.mk [] 1 _ _ _ ((readRecords_c (D ++ P) (by omega))) rfl rfl (by repeat' first | exact trivial | assumption | exact knownSS | exact knownApp knownSS knownNil | refine And.intro ?_ ?_) nofun ?_
    rotate_left
    refine doneV.mk [] [1] rfl rfl ?_ ?_ ?_
    repeat' first | exact trivial | exact rfl | exact Iff.rfl | assumption | exact pureI | exact (show _ = _ by omega) | exact (show _ ≤ _ by omega) | exact (show _ < _ by omega) | exact (show ¬ _ by omega) | refine And.intro ?_ ?_
    all_goals first | exact h | exact pureRec
  · rw [if_neg h]
    refine Z ?_
    refine callW.mk [] 1 _ _ _ (IsValidLog_c _ _ _ (by first | omega | assumption | (simp; omega) | (simp; done)) (by first | omega | assumption | (simp; omega) | (simp; done))) rfl rfl trivial nofun ?_
    refine tY (by first | omega | assumption | exact rfl | exact Iff.rfl) ?_
    rotate_left
    refine doneV.mk [2] [1] rfl rfl ?_ ?_ ?_
    repeat' first | exact trivial | exact rfl | exact Iff.rfl | assumption | exact pureI | exact (show _ = _ by omega) | exact (show _ ≤ _ by omega) | exact (show _ < _ by omega) | exact (show ¬ _ by omega) | refine And.intro ?_ ?_
    all_goals first | exact h | exact pureRec
theorem sLogRecords_c (D P : List UInt8) (n : Int) (hD : D.length ≤ 1048576) (hP : P.length ≤ 1048576) : C 29 [lgv D P n] [] (.tuple [.loc 0, pr (logOk D P n)]) [rowE (if logOk D P n then recsB (D ++ P) else [])] false := by
  have s0 : D ++ P = D ++ P := rfl
  have hl : (D ++ P).length = D.length + P.length := List.length_append
  refine mkC false false Tryd.func29 rfl ?_
  refine And.intro nofun ?_
  by_cases h : logOk D P n
  · rw [if_pos h]
    have hk := h.1
    refine Z ?_
    refine callW.mk [] 1 _ _ _ (l12Valid_c _ _ _ (by first | omega | assumption | (simp; omega) | (simp; done)) (by first | omega | assumption | (simp; omega) | (simp; done))) rfl rfl trivial nofun ?_
    refine tN (by first | omega | assumption | exact fun h => h (by assumption) | exact fun h => h rfl | exact fun h => h Iff.rfl) ?_
    iterate 2 refine Z ?_
    refine And.intro (by omega) ?_
    refine eqS.mk _ s0 ?_
    refine callW.mk [] 1 _ _ _ ((l12Open_c (D ++ P) (by omega))) rfl rfl (by repeat' first | exact trivial | assumption | exact knownSS | exact knownApp knownSS knownNil | refine And.intro ?_ ?_) nofun ?_
    rotate_left
    refine doneV.mk [] [1] rfl rfl ?_ ?_ ?_
    repeat' first | exact trivial | exact rfl | exact Iff.rfl | assumption | exact pureI | exact (show _ = _ by omega) | exact (show _ ≤ _ by omega) | exact (show _ < _ by omega) | exact (show ¬ _ by omega) | refine And.intro ?_ ?_
    all_goals first | exact h | exact pureRec
  · rw [if_neg h]
    refine Z ?_
    refine callW.mk [] 1 _ _ _ (l12Valid_c _ _ _ (by first | omega | assumption | (simp; omega) | (simp; done)) (by first | omega | assumption | (simp; omega) | (simp; done))) rfl rfl trivial nofun ?_
    refine tY (by first | omega | assumption | exact rfl | exact Iff.rfl) ?_
    iterate 2 refine Z ?_
    rotate_left
    refine doneV.mk [2] [1] rfl rfl ?_ ?_ ?_
    repeat' first | exact trivial | exact rfl | exact Iff.rfl | assumption | exact pureI | exact (show _ = _ by omega) | exact (show _ ≤ _ by omega) | exact (show _ < _ by omega) | exact (show ¬ _ by omega) | refine And.intro ?_ ?_
    all_goals first | exact h | exact pureRec
theorem szLogRecord2_c (c r : List UInt8) (hc : fitS c) (hr : fitS r) (l : Int) (hl : 0 ≤ l ∧ l ≤ 1048576) : C 12 [rec2 c r, i64 l] [] (i64 (if l < (c.length : Int) + (r.length : Int) then -1 else l - c.length - r.length)) [] false := by
  have hc : c.length ≤ 9223372036854775807 := hc
  have hr : r.length ≤ 9223372036854775807 := hr
  refine mkC false false Tryd.func12 rfl ?_
  refine And.intro nofun ?_
  iterate 2 refine Z ?_
  refine lenS.mk _ rfl ?_
  refine nw (by omega) (by omega) ?_
  refine twoP.mk (fun _ => ?_) (fun _ => ?_)
  rotate_left
  refine Z ?_
  refine lenS.mk _ rfl ?_
  refine nw (by omega) (by omega) ?_
  refine twoP.mk (fun _ => ?_) (fun _ => ?_)
  iterate 2 rotate_left
  · rw [if_pos (by omega)]
    refine doneV.mk [] [] rfl rfl ?_ ?_ ?_
    repeat' first | exact trivial | exact rfl | exact Iff.rfl | assumption | exact pureI | exact (show _ = _ by omega) | exact (show _ ≤ _ by omega) | exact (show _ < _ by omega) | exact (show ¬ _ by omega) | refine And.intro ?_ ?_
  · rw [if_pos (by omega)]
    refine doneV.mk [] [] rfl rfl ?_ ?_ ?_
    repeat' first | exact trivial | exact rfl | exact Iff.rfl | assumption | exact pureI | exact (show _ = _ by omega) | exact (show _ ≤ _ by omega) | exact (show _ < _ by omega) | exact (show ¬ _ by omega) | refine And.intro ?_ ?_
  · rw [if_neg (by omega)]
    refine doneV.mk [] [] rfl rfl ?_ ?_ ?_
    repeat' first | exact trivial | exact rfl | exact Iff.rfl | assumption | exact pureI | exact (show _ = _ by omega) | exact (show _ ≤ _ by omega) | exact (show _ < _ by omega) | exact (show ¬ _ by omega) | refine And.intro ?_ ?_
theorem FnExactAppendRecord_c (D P : List UInt8) (n : Int) (c r : List UInt8) (hD : fitS D) (hP : fitS P) (hc : fitS c) (hr : fitS r) : C 8 [lgv D P n, rec2 c r] [] .tt [] false := by
  refine mkC false false Tryd.func8 rfl ?_
  refine And.intro nofun ?_
  by_cases hk : 1048576 < (D.length : Int) + (P.length : Int)
  · have hs := szLog_c D P n hD hP _ rfl
    rw [if_pos hk] at hs
    iterate 2 refine Z ?_
    refine callW.mk [] 2 _ _ _ (hs) rfl rfl (by repeat' first | exact trivial | assumption | exact knownSS | exact knownApp knownSS knownNil | refine And.intro ?_ ?_) nofun ?_
    refine tY (by first | omega | assumption | exact rfl | exact Iff.rfl) ?_
    rotate_left
    refine doneV.mk [] [] rfl rfl ?_ ?_ ?_
    repeat' first | exact trivial | exact rfl | exact Iff.rfl | assumption | exact pureI | exact (show _ = _ by omega) | exact (show _ ≤ _ by omega) | exact (show _ < _ by omega) | exact (show ¬ _ by omega) | refine And.intro ?_ ?_
  · have hs := szLog_c D P n hD hP _ rfl
    rw [if_neg hk] at hs
    have h1 : D.length ≤ 1048576 := by omega
    have h2 : P.length ≤ 1048576 := by omega
    have hs2 := szLogRecord2_c c r hc hr (1048576 - D.length - P.length) (by omega)
    by_cases hk2 : 1048576 - (D.length : Int) - P.length < (c.length : Int) + (r.length : Int)
    · rw [if_pos hk2] at hs2
      iterate 2 refine Z ?_
      refine callW.mk [] 2 _ _ _ (hs) rfl rfl (by repeat' first | exact trivial | assumption | exact knownSS | exact knownApp knownSS knownNil | refine And.intro ?_ ?_) nofun ?_
      refine tN (by first | omega | assumption | exact fun h => h (by assumption) | exact fun h => h rfl | exact fun h => h Iff.rfl) ?_
      refine callW.mk [] 2 _ _ _ (hs2) rfl rfl (by repeat' first | exact trivial | assumption | exact knownSS | exact knownApp knownSS knownNil | refine And.intro ?_ ?_) nofun ?_
      refine tY (by first | omega | assumption | exact rfl | exact Iff.rfl) ?_
      rotate_left
      refine doneV.mk [] [] rfl rfl ?_ ?_ ?_
      repeat' first | exact trivial | exact rfl | exact Iff.rfl | assumption | exact pureI | exact (show _ = _ by omega) | exact (show _ ≤ _ by omega) | exact (show _ < _ by omega) | exact (show ¬ _ by omega) | refine And.intro ?_ ?_
    · rw [if_neg hk2] at hs2
      have h3 : c.length ≤ 1099511627 := by omega
      have h4 : r.length ≤ 1099511627 := by omega
      iterate 2 refine Z ?_
      refine callW.mk [] 2 _ _ _ (hs) rfl rfl (by repeat' first | exact trivial | assumption | exact knownSS | exact knownApp knownSS knownNil | refine And.intro ?_ ?_) nofun ?_
      refine tN (by first | omega | assumption | exact fun h => h (by assumption) | exact fun h => h rfl | exact fun h => h Iff.rfl) ?_
      refine callW.mk [] 2 _ _ _ (hs2) rfl rfl (by repeat' first | exact trivial | assumption | exact knownSS | exact knownApp knownSS knownNil | refine And.intro ?_ ?_) nofun ?_
      refine tN (by first | omega | assumption | exact fun h => h (by assumption) | exact fun h => h rfl | exact fun h => h Iff.rfl) ?_
      refine drawP.mkS (Z (Z ?_))
      refine Z ?_
      apply exP.mk
      exact rfl
      apply exP.mk
      exact rfl
      refine BothP.mk ?_ ?_
      refine callW.mk [] 2 _ _ _ (toLog_c _ _ _) rfl rfl trivial nofun ?_
      iterate 2 refine Z ?_
      refine BothP.mk ?_ ?_
      refine callW.mk [] 2 _ _ _ (toLogRecord_c _ _) rfl rfl trivial nofun ?_
      refine Z ?_
      refine BothP.mk ?_ ?_
      refine callW.mk [] 2 _ _ _ ((sAppendRecord_c D P n c r h1 h2 h3 h4)) rfl rfl (by repeat' first | exact trivial | assumption | exact knownSS | exact knownApp knownSS knownNil | refine And.intro ?_ ?_) nofun ?_
      refine Z ?_
      apply exP.mk
      exact rfl
      apply exP.mk
      exact rfl
      apply exP.mk
      exact rfl
      iterate 11 refine Z ?_
      apply exP.mk
      exact rfl
      refine drawP.mkS (Z (Z ?_))
      refine Z ?_
      apply exP.mk
      exact rfl
      apply exP.mk
      exact rfl
      refine BothP.mk ?_ ?_
      refine callW.mk [] 3 _ _ _ (toLog_c _ _ _) rfl rfl trivial nofun ?_
      iterate 2 refine Z ?_
      refine BothP.mk ?_ ?_
      refine callW.mk [] 3 _ _ _ (toLogRecord_c _ _) rfl rfl trivial nofun ?_
      refine Z ?_
      refine BothP.mk ?_ ?_
      refine callW.mk [] 3 _ _ _ ((AppendRecord_c D P n c r h1 h2 h3 h4)) rfl rfl (by repeat' first | exact trivial | assumption | exact knownSS | exact knownApp knownSS knownNil | refine And.intro ?_ ?_) nofun ?_
      refine Z ?_
      apply exP.mk
      exact rfl
      apply exP.mk
      exact rfl
      apply exP.mk
      exact rfl
      iterate 11 refine Z ?_
      apply exP.mk
      exact rfl
      refine callW.mk [] 4 _ _ _ (eqLogs_c _ _ _ _ _ _) rfl rfl trivial nofun ?_
      refine twoN (fun _ => ?_) (fun _ => ?_)
      rotate_left
      refine tN (by first | omega | assumption | exact fun h => h (by assumption) | exact fun h => h rfl | exact fun h => h Iff.rfl) ?_
      rotate_left
      iterate 2 refine Z ?_
      refine callW.mk [] 4 _ _ _ ((AppendRecord_c D P n c r h1 h2 h3 h4)) rfl rfl (by repeat' first | exact trivial | assumption | exact knownSS | exact knownApp knownSS knownNil | refine And.intro ?_ ?_) nofun ?_
      refine Z ?_
      apply exP.mk
      exact rfl
      apply exP.mk
      exact rfl
      apply exP.mk
      exact rfl
      iterate 6 refine Z ?_
      apply exP.mk
      exact rfl
      refine callW.mk [] 4 _ _ _ (eqLogs_c _ _ _ _ _ _) rfl rfl trivial nofun ?_
      refine twoN (fun _ => ?_) (fun _ => ?_)
      rotate_left
      refine tN (by first | omega | assumption | exact fun h => h (by assumption) | exact fun h => h rfl | exact fun h => h Iff.rfl) ?_
      rotate_left
      iterate 3 refine Z ?_
      refine callW.mk [] 4 _ _ _ (toLogRecord_c _ _) rfl rfl trivial nofun ?_
      refine Z ?_
      refine callW.mk [] 4 _ _ _ ((AppendRecord_c D P n c r h1 h2 h3 h4)) rfl rfl (by repeat' first | exact trivial | assumption | exact knownSS | exact knownApp knownSS knownNil | refine And.intro ?_ ?_) nofun ?_
      refine Z ?_
      apply exP.mk
      exact rfl
      apply exP.mk
      exact rfl
      apply exP.mk
      exact rfl
      iterate 6 refine Z ?_
      apply exP.mk
      exact rfl
      refine callW.mk [] 4 _ _ _ (eqLogs_c _ _ _ _ _ _) rfl rfl trivial nofun ?_
      refine twoN (fun _ => ?_) (fun _ => ?_)
      rotate_left
      refine tN (by first | omega | assumption | exact fun h => h (by assumption) | exact fun h => h rfl | exact fun h => h Iff.rfl) ?_
      rotate_left
      iterate 4 refine Z ?_
      refine callW.mk [] 4 _ _ _ (toLog_c _ _ _) rfl rfl trivial nofun ?_
      iterate 2 refine Z ?_
      refine callW.mk [] 4 _ _ _ (toLogRecord_c _ _) rfl rfl trivial nofun ?_
      refine Z ?_
      refine callW.mk [] 4 _ _ _ ((AppendRecord_c D P n c r h1 h2 h3 h4)) rfl rfl (by repeat' first | exact trivial | assumption | exact knownSS | exact knownApp knownSS knownNil | refine And.intro ?_ ?_) nofun ?_
      refine Z ?_
      apply exP.mk
      exact rfl
      apply exP.mk
      exact rfl
      apply exP.mk
      exact rfl
      iterate 6 refine Z ?_
      apply exP.mk
      exact rfl
      refine callW.mk [] 4 _ _ _ (eqLogs_c _ _ _ _ _ _) rfl rfl trivial nofun ?_
      refine twoN (fun _ => ?_) (fun _ => ?_)
      rotate_left
      refine tN (by first | omega | assumption | exact fun h => h (by assumption) | exact fun h => h rfl | exact fun h => h Iff.rfl) ?_
      rotate_left
      iterate 2 refine Z ?_
      refine callW.mk [] 3 _ _ _ ((sAppendRecord_c D P n c r h1 h2 h3 h4)) rfl rfl (by repeat' first | exact trivial | assumption | exact knownSS | exact knownApp knownSS knownNil | refine And.intro ?_ ?_) nofun ?_
      refine Z ?_
      apply exP.mk
      exact rfl
      apply exP.mk
      exact rfl
      apply exP.mk
      exact rfl
      iterate 6 refine Z ?_
      apply exP.mk
      exact rfl
      refine drawP.mkS (Z (Z ?_))
      refine Z ?_
      apply exP.mk
      exact rfl
      apply exP.mk
      exact rfl
      refine BothP.mk ?_ ?_
      refine callW.mk [] 3 _ _ _ (toLog_c _ _ _) rfl rfl trivial nofun ?_
      iterate 2 refine Z ?_
      refine BothP.mk ?_ ?_
      refine callW.mk [] 3 _ _ _ (toLogRecord_c _ _) rfl rfl trivial nofun ?_
      refine Z ?_
      refine BothP.mk ?_ ?_
      refine callW.mk [] 3 _ _ _ ((AppendRecord_c D P n c r h1 h2 h3 h4)) rfl rfl (by repeat' first | exact trivial | assumption | exact knownSS | exact knownApp knownSS knownNil | refine And.intro ?_ ?_) nofun ?_
      refine Z ?_
      apply exP.mk
      exact rfl
      apply exP.mk
      exact rfl
      apply exP.mk
      exact rfl
      iterate 11 refine Z ?_
      apply exP.mk
      exact rfl
      refine callW.mk [] 4 _ _ _ (eqLogs_c _ _ _ _ _ _) rfl rfl trivial nofun ?_
      refine twoN (fun _ => ?_) (fun _ => ?_)
      rotate_left
      refine tN (by first | omega | assumption | exact fun h => h (by assumption) | exact fun h => h rfl | exact fun h => h Iff.rfl) ?_
      rotate_left
      iterate 2 refine Z ?_
      refine callW.mk [] 4 _ _ _ ((AppendRecord_c D P n c r h1 h2 h3 h4)) rfl rfl (by repeat' first | exact trivial | assumption | exact knownSS | exact knownApp knownSS knownNil | refine And.intro ?_ ?_) nofun ?_
      refine Z ?_
      apply exP.mk
      exact rfl
      apply exP.mk
      exact rfl
      apply exP.mk
      exact rfl
      iterate 6 refine Z ?_
      apply exP.mk
      exact rfl
      refine callW.mk [] 4 _ _ _ (eqLogs_c _ _ _ _ _ _) rfl rfl trivial nofun ?_
      refine twoN (fun _ => ?_) (fun _ => ?_)
      rotate_left
      refine tN (by first | omega | assumption | exact fun h => h (by assumption) | exact fun h => h rfl | exact fun h => h Iff.rfl) ?_
      rotate_left
      iterate 3 refine Z ?_
      refine callW.mk [] 4 _ _ _ (toLogRecord_c _ _) rfl rfl trivial nofun ?_
      refine Z ?_
      refine callW.mk [] 4 _ _ _ ((AppendRecord_c D P n c r h1 h2 h3 h4)) rfl rfl (by repeat' first | exact trivial | assumption | exact knownSS | exact knownApp knownSS knownNil | refine And.intro ?_ ?_) nofun ?_
      refine Z ?_
      apply exP.mk
      exact rfl
      apply exP.mk
      exact rfl
      apply exP.mk
      exact rfl
      iterate 6 refine Z ?_
      apply exP.mk
      exact rfl
      refine callW.mk [] 4 _ _ _ (eqLogs_c _ _ _ _ _ _) rfl rfl trivial nofun ?_
      refine twoN (fun _ => ?_) (fun _ => ?_)
      rotate_left
      refine tN (by first | omega | assumption | exact fun h => h (by assumption) | exact fun h => h rfl | exact fun h => h Iff.rfl) ?_
      rotate_left
      iterate 4 refine Z ?_
      refine callW.mk [] 4 _ _ _ (toLog_c _ _ _) rfl rfl trivial nofun ?_
      iterate 2 refine Z ?_
      refine callW.mk [] 4 _ _ _ (toLogRecord_c _ _) rfl rfl trivial nofun ?_
      refine Z ?_
      refine callW.mk [] 4 _ _ _ ((AppendRecord_c D P n c r h1 h2 h3 h4)) rfl rfl (by repeat' first | exact trivial | assumption | exact knownSS | exact knownApp knownSS knownNil | refine And.intro ?_ ?_) nofun ?_
      refine Z ?_
      apply exP.mk
      exact rfl
      apply exP.mk
      exact rfl
      apply exP.mk
      exact rfl
      iterate 6 refine Z ?_
      apply exP.mk
      exact rfl
      refine callW.mk [] 4 _ _ _ (eqLogs_c _ _ _ _ _ _) rfl rfl trivial nofun ?_
      refine twoN (fun _ => ?_) (fun _ => ?_)
      rotate_left
      refine tN (by first | omega | assumption | exact fun h => h (by assumption) | exact fun h => h rfl | exact fun h => h Iff.rfl) ?_
      rotate_left
      iterate 3 refine Z ?_
      refine callW.mk [] 3 _ _ _ (toLogRecord_c _ _) rfl rfl trivial nofun ?_
      refine Z ?_
      refine callW.mk [] 3 _ _ _ ((sAppendRecord_c D P n c r h1 h2 h3 h4)) rfl rfl (by repeat' first | exact trivial | assumption | exact knownSS | exact knownApp knownSS knownNil | refine And.intro ?_ ?_) nofun ?_
      refine Z ?_
      apply exP.mk
      exact rfl
      apply exP.mk
      exact rfl
      apply exP.mk
      exact rfl
      iterate 6 refine Z ?_
      apply exP.mk
      exact rfl
      refine drawP.mkS (Z (Z ?_))
      refine Z ?_
      apply exP.mk
      exact rfl
      apply exP.mk
      exact rfl
      refine BothP.mk ?_ ?_
      refine callW.mk [] 3 _ _ _ (toLog_c _ _ _) rfl rfl trivial nofun ?_
      iterate 2 refine Z ?_
      refine BothP.mk ?_ ?_
      refine callW.mk [] 3 _ _ _ (toLogRecord_c _ _) rfl rfl trivial nofun ?_
      refine Z ?_
      refine BothP.mk ?_ ?_
      refine callW.mk [] 3 _ _ _ ((AppendRecord_c D P n c r h1 h2 h3 h4)) rfl rfl (by repeat' first | exact trivial | assumption | exact knownSS | exact knownApp knownSS knownNil | refine And.intro ?_ ?_) nofun ?_
      refine Z ?_
      apply exP.mk
      exact rfl
      apply exP.mk
      exact rfl
      apply exP.mk
      exact rfl
      iterate 11 refine Z ?_
      apply exP.mk
      exact rfl
      refine callW.mk [] 4 _ _ _ (eqLogs_c _ _ _ _ _ _) rfl rfl trivial nofun ?_
      refine twoN (fun _ => ?_) (fun _ => ?_)
      rotate_left
      refine tN (by first | omega | assumption | exact fun h => h (by assumption) | exact fun h => h rfl | exact fun h => h Iff.rfl) ?_
      rotate_left
      iterate 2 refine Z ?_
      refine callW.mk [] 4 _ _ _ ((AppendRecord_c D P n c r h1 h2 h3 h4)) rfl rfl (by repeat' first | exact trivial | assumption | exact knownSS | exact knownApp knownSS knownNil | refine And.intro ?_ ?_) nofun ?_
      refine Z ?_
      apply exP.mk
      exact rfl
      apply exP.mk
      exact rfl
      apply exP.mk
      exact rfl
      iterate 6 refine Z ?_
      apply exP.mk
      exact rfl
      refine callW.mk [] 4 _ _ _ (eqLogs_c _ _ _ _ _ _) rfl rfl trivial nofun ?_
      refine twoN (fun _ => ?_) (fun _ => ?_)
      rotate_left
      refine tN (by first | omega | assumption | exact fun h => h (by assumption) | exact fun h => h rfl | exact fun h => h Iff.rfl) ?_
      rotate_left
      iterate 3 refine Z ?_
      refine callW.mk [] 4 _ _ _ (toLogRecord_c _ _) rfl rfl trivial nofun ?_
      refine Z ?_
      refine callW.mk [] 4 _ _ _ ((AppendRecord_c D P n c r h1 h2 h3 h4)) rfl rfl (by repeat' first | exact trivial | assumption | exact knownSS | exact knownApp knownSS knownNil | refine And.intro ?_ ?_) nofun ?_
      refine Z ?_
      apply exP.mk
      exact rfl
      apply exP.mk
      exact rfl
      apply exP.mk
      exact rfl
      iterate 6 refine Z ?_
      apply exP.mk
      exact rfl
      refine callW.mk [] 4 _ _ _ (eqLogs_c _ _ _ _ _ _) rfl rfl trivial nofun ?_
      refine twoN (fun _ => ?_) (fun _ => ?_)
      rotate_left
      refine tN (by first | omega | assumption | exact fun h => h (by assumption) | exact fun h => h rfl | exact fun h => h Iff.rfl) ?_
      rotate_left
      iterate 4 refine Z ?_
      refine callW.mk [] 4 _ _ _ (toLog_c _ _ _) rfl rfl trivial nofun ?_
      iterate 2 refine Z ?_
      refine callW.mk [] 4 _ _ _ (toLogRecord_c _ _) rfl rfl trivial nofun ?_
      refine Z ?_
      refine callW.mk [] 4 _ _ _ ((AppendRecord_c D P n c r h1 h2 h3 h4)) rfl rfl (by repeat' first | exact trivial | assumption | exact knownSS | exact knownApp knownSS knownNil | refine And.intro ?_ ?_) nofun ?_
      refine Z ?_
      apply exP.mk
      exact rfl
      apply exP.mk
      exact rfl
      apply exP.mk
      exact rfl
      iterate 6 refine Z ?_
      apply exP.mk
      exact rfl
      refine callW.mk [] 4 _ _ _ (eqLogs_c _ _ _ _ _ _) rfl rfl trivial nofun ?_
      refine twoN (fun _ => ?_) (fun _ => ?_)
      rotate_left
      refine tN (by first | omega | assumption | exact fun h => h (by assumption) | exact fun h => h rfl | exact fun h => h Iff.rfl) ?_
      rotate_left
      iterate 4 refine Z ?_
      refine callW.mk [] 3 _ _ _ (toLog_c _ _ _) rfl rfl trivial nofun ?_
      iterate 2 refine Z ?_
      refine callW.mk [] 3 _ _ _ (toLogRecord_c _ _) rfl rfl trivial nofun ?_
      refine Z ?_
      refine callW.mk [] 3 _ _ _ ((sAppendRecord_c D P n c r h1 h2 h3 h4)) rfl rfl (by repeat' first | exact trivial | assumption | exact knownSS | exact knownApp knownSS knownNil | refine And.intro ?_ ?_) nofun ?_
      refine Z ?_
      apply exP.mk
      exact rfl
      apply exP.mk
      exact rfl
      apply exP.mk
      exact rfl
      iterate 6 refine Z ?_
      apply exP.mk
      exact rfl
      refine drawP.mkS (Z (Z ?_))
      refine Z ?_
      apply exP.mk
      exact rfl
      apply exP.mk
      exact rfl
      refine BothP.mk ?_ ?_
      refine callW.mk [] 3 _ _ _ (toLog_c _ _ _) rfl rfl trivial nofun ?_
      iterate 2 refine Z ?_
      refine BothP.mk ?_ ?_
      refine callW.mk [] 3 _ _ _ (toLogRecord_c _ _) rfl rfl trivial nofun ?_
      refine Z ?_
      refine BothP.mk ?_ ?_
      refine callW.mk [] 3 _ _ _ ((AppendRecord_c D P n c r h1 h2 h3 h4)) rfl rfl (by repeat' first | exact trivial | assumption | exact knownSS | exact knownApp knownSS knownNil | refine And.intro ?_ ?_) nofun ?_
      refine Z ?_
      apply exP.mk
      exact rfl
      apply exP.mk
      exact rfl
      apply exP.mk
      exact rfl
      iterate 11 refine Z ?_
      apply exP.mk
      exact rfl
      refine callW.mk [] 4 _ _ _ (eqLogs_c _ _ _ _ _ _) rfl rfl trivial nofun ?_
      refine twoN (fun _ => ?_) (fun _ => ?_)
      rotate_left
      refine tN (by first | omega | assumption | exact fun h => h (by assumption) | exact fun h => h rfl | exact fun h => h Iff.rfl) ?_
      rotate_left
      iterate 2 refine Z ?_
      refine callW.mk [] 4 _ _ _ ((AppendRecord_c D P n c r h1 h2 h3 h4)) rfl rfl (by repeat' first | exact trivial | assumption | exact knownSS | exact knownApp knownSS knownNil | refine And.intro ?_ ?_) nofun ?_
      refine Z ?_
      apply exP.mk
      exact rfl
      apply exP.mk
      exact rfl
      apply exP.mk
      exact rfl
      iterate 6 refine Z ?_
      apply exP.mk
      exact rfl
      refine callW.mk [] 4 _ _ _ (eqLogs_c _ _ _ _ _ _) rfl rfl trivial nofun ?_
      refine twoN (fun _ => ?_) (fun _ => ?_)
      rotate_left
      refine tN (by first | omega | assumption | exact fun h => h (by assumption) | exact fun h => h rfl | exact fun h => h Iff.rfl) ?_
      rotate_left
      iterate 3 refine Z ?_
      refine callW.mk [] 4 _ _ _ (toLogRecord_c _ _) rfl rfl trivial nofun ?_
      refine Z ?_
      refine callW.mk [] 4 _ _ _ ((AppendRecord_c D P n c r h1 h2 h3 h4)) rfl rfl (by repeat' first | exact trivial | assumption | exact knownSS | exact knownApp knownSS knownNil | refine And.intro ?_ ?_) nofun ?_
      refine Z ?_
      apply exP.mk
      exact rfl
      apply exP.mk
      exact rfl
      apply exP.mk
      exact rfl
      iterate 6 refine Z ?_
      apply exP.mk
      exact rfl
      refine callW.mk [] 4 _ _ _ (eqLogs_c _ _ _ _ _ _) rfl rfl trivial nofun ?_
      refine twoN (fun _ => ?_) (fun _ => ?_)
      rotate_left
      refine tN (by first | omega | assumption | exact fun h => h (by assumption) | exact fun h => h rfl | exact fun h => h Iff.rfl) ?_
      rotate_left
      iterate 4 refine Z ?_
      refine callW.mk [] 4 _ _ _ (toLog_c _ _ _) rfl rfl trivial nofun ?_
      iterate 2 refine Z ?_
      refine callW.mk [] 4 _ _ _ (toLogRecord_c _ _) rfl rfl trivial nofun ?_
      refine Z ?_
      refine callW.mk [] 4 _ _ _ ((AppendRecord_c D P n c r h1 h2 h3 h4)) rfl rfl (by repeat' first | exact trivial | assumption | exact knownSS | exact knownApp knownSS knownNil | refine And.intro ?_ ?_) nofun ?_
      refine Z ?_
      apply exP.mk
      exact rfl
      apply exP.mk
      exact rfl
      apply exP.mk
      exact rfl
      iterate 6 refine Z ?_
      apply exP.mk
      exact rfl
      refine callW.mk [] 4 _ _ _ (eqLogs_c _ _ _ _ _ _) rfl rfl trivial nofun ?_
      refine twoN (fun _ => ?_) (fun _ => ?_)
      rotate_left
      refine tN (by first | omega | assumption | exact fun h => h (by assumption) | exact fun h => h rfl | exact fun h => h Iff.rfl) ?_
      rotate_left
      all_goals first | exact dv0 rfl trivial | (rename_i h; exact (h ⟨rfl, rfl, rfl⟩).elim)
end Sx
