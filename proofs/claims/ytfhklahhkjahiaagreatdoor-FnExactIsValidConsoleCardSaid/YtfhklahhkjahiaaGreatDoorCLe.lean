/- Contracts: valid logs. -/
import Derived.Test.YtfhklahhkjahiaaGreatDoorCLd
import Derived.Test.YtfhklahhkjahiaaGreatDoorMxR
set_option linter.all false
namespace Sx
open Go Go.Proofs
set_option maxRecDepth 100000
set_option maxHeartbeats 4000000
set_option linter.unusedSimpArgs false
set_option linter.unusedSectionVars false
variable [Glb]
variable [HasTab]
theorem l12Valid_c (D P : List UInt8) (n : Int) (hD : D.length ≤ 1048576) (hP : P.length ≤ 1048576) : C 12 [lgv D P n] [] (pr (logOk D P n)) [] false := by
  have hlr : (List.map rcv (recsB (D ++ P))).length = cntB (D ++ P) := by simp [recsB]
  have s0 : D ++ P = D ++ P := rfl
  have hl : (D ++ P).length = D.length + P.length := List.length_append
  refine mkC false false Tryz.func12 rfl ?_
  refine And.intro nofun ?_
  iterate 2 refine Z ?_
  refine lenS.mk _ rfl ?_
  refine Z ?_
  refine lenS.mk _ rfl ?_
  refine nw (by omega) (by omega) ?_
  refine twoP.mk (fun _ => ?_) (fun _ => ?_)
  rotate_left
  iterate 2 refine Z ?_
  refine And.intro (by omega) ?_
  refine eqS.mk _ s0 ?_
  refine callW.mk [] 1 _ _ _ ((l12Open_c (D ++ P) (by omega))) rfl rfl (by repeat' first | exact trivial | assumption | exact knownSS | exact knownApp knownSS knownNil | refine And.intro ?_ ?_) nofun ?_
  refine Z ?_
  refine callW.mk [] 2 _ _ _ ((l12Open_c D (by omega))) rfl rfl (by repeat' first | exact trivial | assumption | exact knownSS | exact knownApp knownSS knownNil | refine And.intro ?_ ?_) nofun ?_
  refine Z ?_
  refine lenS.mk _ rfl ?_
  refine Z ?_
  refine lenS.mk _ rfl ?_
  refine nw (by omega) (by omega) ?_
  refine twoP.mk (fun _ => ?_) (fun _ => ?_)
  refine Z ?_
  refine lenS.mk _ rfl ?_
  refine twoP.mk (fun _ => ?_) (fun _ => ?_)
  refine (lenP.mk (cntB (D ++ P)) hlr) ?_
  refine Z ?_
  iterate 3 rotate_left
  · rename_i h1
    refine doneV.mk [] [] rfl rfl ?_ ?_ ?_
    repeat' first | exact trivial | exact rfl | exact Iff.rfl | assumption | exact pureI | exact (show _ = _ by omega) | exact (show _ ≤ _ by omega) | exact (show _ < _ by omega) | exact (show ¬ _ by omega) | refine And.intro ?_ ?_
    exact fun h => by have := h.1; omega
  · rename_i h1 h2 h3
    refine doneV.mk [] [] rfl rfl ?_ ?_ ?_
    repeat' first | exact trivial | exact rfl | exact Iff.rfl | assumption | exact pureI | exact (show _ = _ by omega) | exact (show _ ≤ _ by omega) | exact (show _ < _ by omega) | exact (show ¬ _ by omega) | refine And.intro ?_ ?_
    exact (show _ ↔ _ from ⟨fun h => ⟨by omega, h2, h3, h⟩, fun h => h.2.2.2⟩)
  · rename_i h1 h2 h3
    refine doneV.mk [] [] rfl rfl ?_ ?_ ?_
    repeat' first | exact trivial | exact rfl | exact Iff.rfl | assumption | exact pureI | exact (show _ = _ by omega) | exact (show _ ≤ _ by omega) | exact (show _ < _ by omega) | exact (show ¬ _ by omega) | refine And.intro ?_ ?_
    exact fun h => h3 h.2.2.1
  · rename_i h1 h2
    refine doneV.mk [] [] rfl rfl ?_ ?_ ?_
    repeat' first | exact trivial | exact rfl | exact Iff.rfl | assumption | exact pureI | exact (show _ = _ by omega) | exact (show _ ≤ _ by omega) | exact (show _ < _ by omega) | exact (show ¬ _ by omega) | refine And.intro ?_ ?_
    exact fun h => h2 h.2.1
theorem IsValidLog_c (D P : List UInt8) (n : Int) (hD : D.length ≤ 1048576) (hP : P.length ≤ 1048576) : C 16 [lgv D P n] [] (pr (logOk D P n)) [] false := by
  have hlr : (List.map rcv (recsB (D ++ P))).length = cntB (D ++ P) := by simp [recsB]
  have hle : (List.map i64 (endsB (D ++ P))).length = cntB (D ++ P) + 1 := by simp [endsB]
  have hg : (endsB (D ++ P))[cntB (D ++ P)]'(by simp [endsB]) = (atB (D ++ P) (cntB (D ++ P)) : Int) := by simp [endsB]
  have hs := cnt_spec (D ++ P)
  have hel : (endsB (D ++ P)).length = cntB (D ++ P) + 1 := by simp [endsB]
  have s0 : D ++ P = D ++ P := rfl
  have hl : (D ++ P).length = D.length + P.length := List.length_append
  refine mkC false false Tryz.func16 rfl ?_
  refine And.intro nofun ?_
  iterate 2 refine Z ?_
  refine lenS.mk _ rfl ?_
  refine Z ?_
  refine lenS.mk _ rfl ?_
  refine nw (by omega) (by omega) ?_
  refine twoP.mk (fun _ => ?_) (fun _ => ?_)
  rotate_left
  iterate 2 refine Z ?_
  refine And.intro (by omega) ?_
  refine eqS.mk _ s0 ?_
  refine callW.mk [] 1 _ _ _ ((readRecords_c (D ++ P) (by omega))) rfl rfl (by repeat' first | exact trivial | assumption | exact knownSS | exact knownApp knownSS knownNil | refine And.intro ?_ ?_) nofun ?_
  refine drawP.mk 28 (Z (Z (Z (Z ?_))))
  apply exP.mk
  exact rfl
  apply exP.mk
  exact rfl
  apply exP.mk
  refine (lenP.mk (cntB (D ++ P)) hlr) ?_
  exact rfl
  apply exP.mk
  iterate 2 refine Z ?_
  refine jkm (by omega) ?_
  exact rfl
  apply exP.mk
  refine gmv (by omega) hg ?_
  exact rfl
  apply exP.mk
  refine Z ?_
  exact rfl
  apply exP.mk
  exact rfl
  apply exP.mk
  refine lenS.mk _ rfl ?_
  exact rfl
  apply exP.mk
  refine Z ?_
  exact rfl
  apply exP.mk
  exact rfl
  apply exP.mk
  refine lenS.mk _ rfl ?_
  exact rfl
  apply exP.mk
  refine nw (by omega) (by omega) ?_
  exact rfl
  apply exP.mk
  exact rfl
  apply exP.mk
  exact rfl
  refine twoP.mk (fun _ => ?_) (fun _ => ?_)
  apply exP.mk
  refine Z ?_
  exact rfl
  apply exP.mk
  exact rfl
  apply exP.mk
  exact rfl
  apply exP.mk
  refine (lenP.mk (cntB (D ++ P)) hlr) ?_
  exact rfl
  apply exP.mk
  exact rfl
  apply exP.mk
  exact rfl
  refine twoP.mk (fun _ => ?_) (fun _ => ?_)
  apply exP.mk
  exact rfl
  apply exP.mk
  refine Z ?_
  exact rfl
  apply exP.mk
  exact rfl
  apply exP.mk
  refine lenS.mk _ rfl ?_
  exact rfl
  apply exP.mk
  refine callP.mk _ _ _ ((Contains_c (endsB (D ++ P)) (by omega) (D.length : Int))) (by repeat' first | exact trivial | assumption | exact knownSS | exact knownApp knownSS knownNil | refine And.intro ?_ ?_) nofun trivial ?_
  exact rfl
  apply exP.mk
  exact rfl
  rotate_left
  apply exP.mk
  exact rfl
  rotate_left
  apply exP.mk
  exact rfl
  apply exP.mk
  exact rfl
  rotate_left
  · rename_i h1
    refine doneV.mk [] [] rfl rfl ?_ ?_ ?_
    repeat' first | exact trivial | exact rfl | exact Iff.rfl | assumption | exact pureI | exact (show _ = _ by omega) | exact (show _ ≤ _ by omega) | exact (show _ < _ by omega) | exact (show ¬ _ by omega) | refine And.intro ?_ ?_
    exact fun h => by have := h.1; omega
  · rename_i h1 h2 h3
    refine doneV.mk [] [] rfl rfl ?_ ?_ ?_
    repeat' first | exact trivial | exact rfl | exact Iff.rfl | assumption | exact pureI | exact (show _ = _ by omega) | exact (show _ ≤ _ by omega) | exact (show _ < _ by omega) | exact (show ¬ _ by omega) | refine And.intro ?_ ?_
    exact ends_iff.trans (show _ ↔ _ from ⟨fun h => ⟨by omega, h2, by omega, h3.symm⟩, fun h => by have := h.2.2.1; omega⟩)
  · rename_i h1 h2 h3
    refine doneV.mk [] [] rfl rfl ?_ ?_ ?_
    repeat' first | exact trivial | exact rfl | exact Iff.rfl | assumption | exact pureI | exact (show _ = _ by omega) | exact (show _ ≤ _ by omega) | exact (show _ < _ by omega) | exact (show ¬ _ by omega) | refine And.intro ?_ ?_
    exact fun h => h3 h.2.2.2.symm
  · rename_i h1 h2
    refine doneV.mk [] [] rfl rfl ?_ ?_ ?_
    repeat' first | exact trivial | exact rfl | exact Iff.rfl | assumption | exact pureI | exact (show _ = _ by omega) | exact (show _ ≤ _ by omega) | exact (show _ < _ by omega) | exact (show ¬ _ by omega) | refine And.intro ?_ ?_
    exact fun h => h2 h.2.1
theorem toLog_c (D P : List UInt8) (n : Int) : C 14 [lgv D P n] [] (lgv D P n) [] false := by
  refine mkC false false Tryz.func14 rfl ?_
  refine And.intro nofun ?_
  iterate 25 refine Z ?_
  rotate_left
  refine doneV.mk [] [] rfl rfl ?_ ?_ ?_
  repeat' first | exact trivial | exact rfl | exact Iff.rfl | assumption | exact pureI | exact (show _ = _ by omega) | exact (show _ ≤ _ by omega) | exact (show _ < _ by omega) | exact (show ¬ _ by omega) | refine And.intro ?_ ?_
theorem szLog_c (c r : List UInt8) (n : Int) (hc : fitS c) (hr : fitS r) (l : Int) (hl : l = 1048576) : C 10 [lgv c r n, i64 l] [] (i64 (if 1048576 < (c.length : Int) + (r.length : Int) then -1 else 1048576 - c.length - r.length)) [] false := by
  subst hl
  have hc : c.length ≤ 9223372036854775807 := hc
  have hr : r.length ≤ 9223372036854775807 := hr
  refine mkC false false Tryz.func10 rfl ?_
  refine And.intro nofun ?_
  iterate 2 refine Z ?_
  refine lenS.mk _ rfl ?_
  refine nw (by omega) (by omega) ?_
  refine twoP.mk (fun _ => ?_) (fun _ => ?_)
  rotate_left
  refine Z ?_
  refine lenS.mk _ rfl ?_
  refine nw (by omega) (by omega) ?_
  refine twoP.mk (fun _ => ?_) (fun _ => ?_)
  iterate 2 rotate_left
  · rw [if_pos (by omega)]
    refine doneV.mk [] [] rfl rfl ?_ ?_ ?_
    repeat' first | exact trivial | exact rfl | exact Iff.rfl | assumption | exact pureI | exact (show _ = _ by omega) | exact (show _ ≤ _ by omega) | exact (show _ < _ by omega) | exact (show ¬ _ by omega) | refine And.intro ?_ ?_
  · rw [if_pos (by omega)]
    refine doneV.mk [] [] rfl rfl ?_ ?_ ?_
    repeat' first | exact trivial | exact rfl | exact Iff.rfl | assumption | exact pureI | exact (show _ = _ by omega) | exact (show _ ≤ _ by omega) | exact (show _ < _ by omega) | exact (show ¬ _ by omega) | refine And.intro ?_ ?_
  · rw [if_neg (by omega)]
    refine doneV.mk [] [] rfl rfl ?_ ?_ ?_
    repeat' first | exact trivial | exact rfl | exact Iff.rfl | assumption | exact pureI | exact (show _ = _ by omega) | exact (show _ ≤ _ by omega) | exact (show _ < _ by omega) | exact (show ¬ _ by omega) | refine And.intro ?_ ?_
end Sx
