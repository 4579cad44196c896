/- Contracts: the law of crashes. -/
import Derived.Test.YtfhklahhkjahiaaDoorCLf
import Derived.Test.YtfhklahhkjahiaaDoorCLj
set_option linter.all false
namespace Sx
open Go Go.Proofs
set_option maxRecDepth 100000
set_option maxHeartbeats 8000000
set_option linter.unusedSimpArgs false
set_option linter.unusedSectionVars false
variable [Glb]
variable [HasTab]
theorem lineX_len {k : Int} {c r : List UInt8} (h0 : 0 ≤ k) (hk : k < 1000000000) : (lineB k c r).length ≤ c.length + r.length + 50 := by
  have h1 := itoa_len h0 (d := 12) (by omega)
  have h2 := seal_len (textB k c r)
  unfold lineB
  unfold textB at h2 ⊢
  simp only [List.length_append, List.length_singleton] at h2 ⊢
  omega
theorem l12LineX_c (k : Int) (c r : List UInt8) (h0 : 0 ≤ k) (hk : k < 1000000000) (hc : c.length ≤ 1000) (hr : r.length ≤ 1000) : C 47 [i64 k, rec2 c r] [] (.str (lineB k c r)) [] false := by
  have h1 := itoa_len h0 (d := 12) (by omega)
  have s0 : Lib.itoa k ++ [32] ++ c ++ [64] ++ r = textB k c r := rfl
  have hl : (textB k c r).length ≤ 2020 := by unfold textB; simp only [List.length_append, List.length_singleton]; omega
  have h2 := seal_len (textB k c r)
  refine mkC false false Tryd.func47 rfl ?_
  refine And.intro nofun ?_
  refine Z ?_
  refine drawP.mk 13 (Z (Z (Z (Z ?_))))
  apply exP.mk
  exact rfl
  apply exP.mk
  refine callP.mk _ _ _ (l1Num_c _ (by first | omega | assumption | (simp; omega) | (simp; done) | exact trivial) (by first | omega | assumption | (simp; omega) | (simp; done) | exact trivial)) trivial nofun trivial ?_
  exact rfl
  apply exP.mk
  refine And.intro (by simp; omega) ?_
  refine eqS.mk _ rfl ?_
  exact rfl
  apply exP.mk
  refine Z ?_
  exact rfl
  apply exP.mk
  exact rfl
  apply exP.mk
  refine And.intro (by simp; omega) ?_
  refine eqS.mk _ rfl ?_
  exact rfl
  apply exP.mk
  refine And.intro (by simp; omega) ?_
  refine eqS.mk _ rfl ?_
  exact rfl
  apply exP.mk
  refine Z ?_
  exact rfl
  apply exP.mk
  exact rfl
  apply exP.mk
  refine And.intro (by simp; omega) ?_
  refine eqS.mk _ s0 ?_
  exact rfl
  apply exP.mk
  refine callP.mk _ _ _ (l1Seal_c _ (by first | omega | assumption | (simp; omega) | (simp; done) | exact trivial)) trivial nofun trivial ?_
  exact rfl
  apply exP.mk
  refine And.intro (by simp; omega) ?_
  refine eqS.mk _ rfl ?_
  exact rfl
  apply exP.mk
  exact rfl
  rotate_left
  refine doneV.mk [] [] rfl rfl ?_ ?_ ?_
  repeat' first | exact trivial | exact rfl | exact Iff.rfl | assumption | exact pureI | exact (show _ = _ by omega) | exact (show _ ≤ _ by omega) | exact (show _ < _ by omega) | exact (show ¬ _ by omega) | refine And.intro ?_ ?_
  all_goals exact rfl
theorem DrawRecoverLog_c (L : List UInt8) (hL : L.length ≤ 1099511627776) : CE 44 [.sl 1 (L.map i8)] [] (fun e : List UInt8 => e.length ≤ 100000) (fun e => .str e) (fun _ => []) false := by
  refine mkE false false Tryd.func44 rfl ?_
  refine And.intro nofun ?_
  iterate 5 refine Z ?_
  refine callW.mkE [] [0] 1 _ _ _ _ (log12_c _ (by first | omega | assumption | (simp; omega) | (simp; done) | exact trivial) _ _ (by first | omega | assumption | (simp; omega) | (simp; done) | exact trivial) (by first | omega | assumption | (simp; omega) | (simp; done) | exact trivial)) rfl rfl (by repeat' first | exact trivial | assumption | exact knownSS | exact knownApp knownSS knownNil | refine And.intro ?_ ?_) (fun _ => ⟨rfl, rfl⟩) (fun _ _ => ?_)
  iterate 7 refine Z ?_
  refine And.intro (by omega) ?_
  refine eqS.mk _ rfl ?_
  refine callW.mkE [] [0] 2 _ _ _ _ (pick_c _ (by first | omega | assumption | (simp; omega) | (simp; done) | exact trivial) _ _ (by first | omega | assumption | (simp; omega) | (simp; done) | exact trivial) (by first | omega | assumption | (simp; omega) | (simp; done) | exact trivial) _) rfl rfl (by repeat' first | exact trivial | assumption | exact knownSS | exact knownApp knownSS knownNil | refine And.intro ?_ ?_) (fun _ => ⟨rfl, rfl⟩) (fun _ _ => ?_)
  refine twoP.mk (fun _ => ?_) (fun _ => ?_)
  refine callW.mkE [] [0] 2 _ _ _ _ (spoilt_c _ (by first | omega | assumption | (simp; omega) | (simp; done) | exact trivial) _ _ (by first | omega | assumption | (simp; omega) | (simp; done) | exact trivial) (by first | omega | assumption | (simp; omega) | (simp; done) | exact trivial) _ _ (by first | omega | assumption | (simp; omega) | (simp; done) | exact trivial) (by first | omega | assumption | (simp; omega) | (simp; done) | exact trivial)) rfl rfl (by repeat' first | exact trivial | assumption | exact knownSS | exact knownApp knownSS knownNil | refine And.intro ?_ ?_) (fun _ => ⟨rfl, rfl⟩) (fun _ _ => ?_)
  refine callW.mkE [] [0] 2 _ _ _ _ (one_c _ (by first | omega | assumption | (simp; omega) | (simp; done) | exact trivial) _ _ (by first | omega | assumption | (simp; omega) | (simp; done) | exact trivial) (by first | omega | assumption | (simp; omega) | (simp; done) | exact trivial) _) rfl rfl (by repeat' first | exact trivial | assumption | exact knownSS | exact knownApp knownSS knownNil | refine And.intro ?_ ?_) (fun _ => ⟨rfl, rfl⟩) (fun _ _ => ?_)
  refine twoP.mk (fun _ => ?_) (fun _ => ?_)
  refine callW.mkE [] [0] 2 _ _ _ _ (pick_c _ (by first | omega | assumption | (simp; omega) | (simp; done) | exact trivial) _ _ (by first | omega | assumption | (simp; omega) | (simp; done) | exact trivial) (by first | omega | assumption | (simp; omega) | (simp; done) | exact trivial) _) rfl rfl (by repeat' first | exact trivial | assumption | exact knownSS | exact knownApp knownSS knownNil | refine And.intro ?_ ?_) (fun _ => ⟨rfl, rfl⟩) (fun _ _ => ?_)
  refine nw (by omega) (by omega) ?_
  iterate 2 refine Z ?_
  refine jn (by omega) (by omega) ?_
  refine ixb (by omega) (by omega) ?_
  iterate 2 refine Z ?_
  refine er ?_
  refine Z ?_
  iterate 2 rotate_left
  refine twoP.mk (fun _ => ?_) (fun _ => ?_)
  refine lenS.mk _ rfl ?_
  rotate_left
  refine twoP.mk (fun _ => ?_) (fun _ => ?_)
  refine callW.mkE [] [0] 2 _ _ _ _ (pick_c _ (by first | omega | assumption | (simp; omega) | (simp; done) | exact trivial) _ _ (by first | omega | assumption | (simp; omega) | (simp; done) | exact trivial) (by first | omega | assumption | (simp; omega) | (simp; done) | exact trivial) _) rfl rfl (by repeat' first | exact trivial | assumption | exact knownSS | exact knownApp knownSS knownNil | refine And.intro ?_ ?_) (fun _ => ⟨rfl, rfl⟩) (fun _ _ => ?_)
  refine callW.mkE [] [0] 2 _ _ _ _ (logRecord_c _ (by first | omega | assumption | (simp; omega) | (simp; done) | exact trivial) _ _ (by first | omega | assumption | (simp; omega) | (simp; done) | exact trivial) (by first | omega | assumption | (simp; omega) | (simp; done) | exact trivial)) rfl rfl (by repeat' first | exact trivial | assumption | exact knownSS | exact knownApp knownSS knownNil | refine And.intro ?_ ?_) (fun _ => ⟨rfl, rfl⟩) (fun _ _ => ?_)
  refine callW.mk [] 2 _ _ _ (l12LineX_c _ _ _ (by first | omega | assumption | (simp; omega) | (simp; done) | exact trivial) (by first | omega | assumption | (simp; omega) | (simp; done) | exact trivial) (by first | omega | assumption | (simp; omega) | (simp; done) | exact trivial) (by first | omega | assumption | (simp; omega) | (simp; done) | exact trivial)) rfl rfl trivial nofun ?_
  rotate_left
  refine callW.mkE [] [0] 2 _ _ _ _ (one_c _ (by first | omega | assumption | (simp; omega) | (simp; done) | exact trivial) _ _ (by first | omega | assumption | (simp; omega) | (simp; done) | exact trivial) (by first | omega | assumption | (simp; omega) | (simp; done) | exact trivial) _) rfl rfl (by repeat' first | exact trivial | assumption | exact knownSS | exact knownApp knownSS knownNil | refine And.intro ?_ ?_) (fun _ => ⟨rfl, rfl⟩) (fun _ _ => ?_)
  refine twoP.mk (fun _ => ?_) (fun _ => ?_)
  refine callW.mkE [] [0] 2 _ _ _ _ (pick_c _ (by first | omega | assumption | (simp; omega) | (simp; done) | exact trivial) _ _ (by first | omega | assumption | (simp; omega) | (simp; done) | exact trivial) (by first | omega | assumption | (simp; omega) | (simp; done) | exact trivial) _) rfl rfl (by repeat' first | exact trivial | assumption | exact knownSS | exact knownApp knownSS knownNil | refine And.intro ?_ ?_) (fun _ => ⟨rfl, rfl⟩) (fun _ _ => ?_)
  refine nw (by omega) (by omega) ?_
  iterate 2 refine Z ?_
  refine jn (by omega) (by omega) ?_
  refine ixb (by omega) (by omega) ?_
  iterate 2 refine Z ?_
  refine er ?_
  refine Z ?_
  iterate 2 rotate_left
  · rename_i e1 g1 e2 g2 g3 e3 g4 e4 g5 g6 e5 g7
    refine (bytesP.mk (List.replicate (30000 + e5.1).toNat 0) (by rw [List.map_replicate]; rfl)) ?_
    rotate_left
    refine doneE.mk ((List.replicate (30000 + e5.1).toNat 0)) ?_ ?_
    rotate_left
    focus
      refine doneV.mk [] [] rfl rfl ?_ ?_ ?_
      repeat' first | exact trivial | exact rfl | exact Iff.rfl | assumption | exact pureI | exact (show _ = _ by omega) | exact (show _ ≤ _ by omega) | exact (show _ < _ by omega) | exact (show ¬ _ by omega) | refine And.intro ?_ ?_
    rotate_right
    rw [List.length_replicate]
    omega
  · rename_i e1 g1 e2 g2 g3 e3 g4 e4 g5 g6
    refine doneE.mk ((e3.1)) ?_ ?_
    rotate_left
    focus
      refine doneV.mk [] [] rfl rfl ?_ ?_ ?_
      repeat' first | exact trivial | exact rfl | exact Iff.rfl | assumption | exact pureI | exact (show _ = _ by omega) | exact (show _ ≤ _ by omega) | exact (show _ < _ by omega) | exact (show ¬ _ by omega) | refine And.intro ?_ ?_
    rotate_right
    rw [List.length_append] at g4
    omega
  · rename_i e1 g1 e2 g2 g3 g4
    have hap : (e1.1.1 ++ e1.1.2.1).length = e1.1.1.length + e1.1.2.1.length := List.length_append
    refine nw (by omega) (by omega) ?_
    refine callW.mkE [] [0] 2 _ _ _ _ (pick_c _ (by first | omega | assumption | (simp; omega) | (simp; done) | exact trivial) _ _ (by first | omega | assumption | (simp; omega) | (simp; done) | exact trivial) (by first | omega | assumption | (simp; omega) | (simp; done) | exact trivial) _) rfl rfl (by repeat' first | exact trivial | assumption | exact knownSS | exact knownApp knownSS knownNil | refine And.intro ?_ ?_) (fun _ => ⟨rfl, rfl⟩) (fun _ _ => ?_)
    refine jn (by omega) (by omega) ?_
    refine eqS.mk _ rfl ?_
    refine callW.mkE [] [0] 2 _ _ _ _ (one_c _ (by first | omega | assumption | (simp; omega) | (simp; done) | exact trivial) _ _ (by first | omega | assumption | (simp; omega) | (simp; done) | exact trivial) (by first | omega | assumption | (simp; omega) | (simp; done) | exact trivial) _) rfl rfl (by repeat' first | exact trivial | assumption | exact knownSS | exact knownApp knownSS knownNil | refine And.intro ?_ ?_) (fun _ => ⟨rfl, rfl⟩) (fun _ _ => ?_)
    refine twoP.mk (fun _ => ?_) (fun _ => ?_)
    refine callW.mkE [] [0] 2 _ _ _ _ (pick_c _ (by first | omega | assumption | (simp; omega) | (simp; done) | exact trivial) _ _ (by first | omega | assumption | (simp; omega) | (simp; done) | exact trivial) (by first | omega | assumption | (simp; omega) | (simp; done) | exact trivial) _) rfl rfl (by repeat' first | exact trivial | assumption | exact knownSS | exact knownApp knownSS knownNil | refine And.intro ?_ ?_) (fun _ => ⟨rfl, rfl⟩) (fun _ _ => ?_)
    refine nw (by omega) (by omega) ?_
    iterate 2 refine Z ?_
    refine jn (by omega) (by omega) ?_
    refine ixb (by omega) (by omega) ?_
    iterate 2 refine Z ?_
    refine er ?_
    refine Z ?_
    iterate 2 rotate_left
    · rename_i e3 g5 e4 g6 g7 e5 g8
      refine (bytesP.mk (List.replicate (30000 + e5.1).toNat 0) (by rw [List.map_replicate]; rfl)) ?_
      rotate_left
      refine doneE.mk ((List.replicate (30000 + e5.1).toNat 0)) ?_ ?_
      rotate_left
      focus
        refine doneV.mk [] [] rfl rfl ?_ ?_ ?_
        repeat' first | exact trivial | exact rfl | exact Iff.rfl | assumption | exact pureI | exact (show _ = _ by omega) | exact (show _ ≤ _ by omega) | exact (show _ < _ by omega) | exact (show ¬ _ by omega) | refine And.intro ?_ ?_
      rotate_right
      rw [List.length_replicate]
      omega
    · rename_i e3 g5 e4 g6 g7
      refine doneE.mk ((List.drop 0 (List.take e3.1.toNat (e1.1.1 ++ e1.1.2.1)))) ?_ ?_
      rotate_left
      focus
        refine doneV.mk [] [] rfl rfl ?_ ?_ ?_
        repeat' first | exact trivial | exact rfl | exact Iff.rfl | assumption | exact pureI | exact (show _ = _ by omega) | exact (show _ ≤ _ by omega) | exact (show _ < _ by omega) | exact (show ¬ _ by omega) | refine And.intro ?_ ?_
      rotate_right
      rw [List.length_drop, List.length_take]
      omega
  · rename_i e1 g1 e2 g2 g3 g4 g5 e3 g6 e4 g7
    have hap : (e1.1.1 ++ e1.1.2.1).length = e1.1.1.length + e1.1.2.1.length := List.length_append
    have hll := lineX_len (k := e3.1) (c := e4.1.1) (r := e4.1.2) (by omega) (by omega)
    refine And.intro (by omega) ?_
    refine eqS.mk _ rfl ?_
    refine callW.mkE [] [0] 2 _ _ _ _ (one_c _ (by first | omega | assumption | (simp; omega) | (simp; done) | exact trivial) _ _ (by first | omega | assumption | (simp; omega) | (simp; done) | exact trivial) (by first | omega | assumption | (simp; omega) | (simp; done) | exact trivial) _) rfl rfl (by repeat' first | exact trivial | assumption | exact knownSS | exact knownApp knownSS knownNil | refine And.intro ?_ ?_) (fun _ => ⟨rfl, rfl⟩) (fun _ _ => ?_)
    refine twoP.mk (fun _ => ?_) (fun _ => ?_)
    refine callW.mkE [] [0] 2 _ _ _ _ (pick_c _ (by first | omega | assumption | (simp; omega) | (simp; done) | exact trivial) _ _ (by first | omega | assumption | (simp; omega) | (simp; done) | exact trivial) (by first | omega | assumption | (simp; omega) | (simp; done) | exact trivial) _) rfl rfl (by repeat' first | exact trivial | assumption | exact knownSS | exact knownApp knownSS knownNil | refine And.intro ?_ ?_) (fun _ => ⟨rfl, rfl⟩) (fun _ _ => ?_)
    refine nw (by omega) (by omega) ?_
    iterate 2 refine Z ?_
    refine jn (by omega) (by omega) ?_
    refine ixb (by omega) (by omega) ?_
    iterate 2 refine Z ?_
    refine er ?_
    refine Z ?_
    iterate 2 rotate_left
    · rename_i e5 g8 g9 e6 g10
      refine (bytesP.mk (List.replicate (30000 + e6.1).toNat 0) (by rw [List.map_replicate]; rfl)) ?_
      rotate_left
      refine doneE.mk ((List.replicate (30000 + e6.1).toNat 0)) ?_ ?_
      rotate_left
      focus
        refine doneV.mk [] [] rfl rfl ?_ ?_ ?_
        repeat' first | exact trivial | exact rfl | exact Iff.rfl | assumption | exact pureI | exact (show _ = _ by omega) | exact (show _ ≤ _ by omega) | exact (show _ < _ by omega) | exact (show ¬ _ by omega) | refine And.intro ?_ ?_
      rotate_right
      rw [List.length_replicate]
      omega
    · rename_i e5 g8 g9
      refine doneE.mk ((e1.1.1 ++ e1.1.2.1 ++ lineB e3.1 e4.1.1 e4.1.2)) ?_ ?_
      rotate_left
      focus
        refine doneV.mk [] [] rfl rfl ?_ ?_ ?_
        repeat' first | exact trivial | exact rfl | exact Iff.rfl | assumption | exact pureI | exact (show _ = _ by omega) | exact (show _ ≤ _ by omega) | exact (show _ < _ by omega) | exact (show ¬ _ by omega) | refine And.intro ?_ ?_
      rotate_right
      rw [List.length_append]
      omega
  · rename_i e1 g1 e2 g2 g3 g4 g5 e4 g6 g7 e5 g8
    refine (bytesP.mk (List.replicate (30000 + e5.1).toNat 0) (by rw [List.map_replicate]; rfl)) ?_
    rotate_left
    refine doneE.mk ((List.replicate (30000 + e5.1).toNat 0)) ?_ ?_
    rotate_left
    focus
      refine doneV.mk [] [] rfl rfl ?_ ?_ ?_
      repeat' first | exact trivial | exact rfl | exact Iff.rfl | assumption | exact pureI | exact (show _ = _ by omega) | exact (show _ ≤ _ by omega) | exact (show _ < _ by omega) | exact (show ¬ _ by omega) | refine And.intro ?_ ?_
    rotate_right
    rw [List.length_replicate]
    omega
  · rename_i e1 g1 e2 g2 g3 g4 g5 e4 g6 g7
    refine doneE.mk ((e1.1.1 ++ e1.1.2.1)) ?_ ?_
    rotate_left
    focus
      refine doneV.mk [] [] rfl rfl ?_ ?_ ?_
      repeat' first | exact trivial | exact rfl | exact Iff.rfl | assumption | exact pureI | exact (show _ = _ by omega) | exact (show _ ≤ _ by omega) | exact (show _ < _ by omega) | exact (show ¬ _ by omega) | refine And.intro ?_ ?_
    rotate_right
    rw [List.length_append]
    omega
theorem allRecords_c (D P : List UInt8) (n : Int) (hD : D.length ≤ 30000) (hP : P.length ≤ 30000) (h : logOk D P n) : C 30 [lgv D P n] [] (.tuple [.loc 0, pr (logOk D P n)]) [rowE (recsB (D ++ P))] false := by
  have e := LogRecords_c D P n (by omega) (by omega)
  rw [if_pos h] at e
  exact e
theorem readRecordsS_c (s : List UInt8) (hs : s.length ≤ 30000) (R : List (List UInt8 × List UInt8)) (h : recsB s = R) : C 30 [lgv (rcvS s) [] (rcvC s)] [] (.tuple [.loc 0, pr (logOk (rcvS s) [] (rcvC s))]) [rowE R] false := by
  obtain ⟨h1, h2, h3⟩ := rcv_log hs
  have e := LogRecords_c (rcvS s) [] (rcvC s) (by rw [rcvS_yes hs, List.length_take]; omega) (Nat.zero_le _)
  rw [if_pos h1, h3, h] at e
  exact e
theorem vRecordsPart2_c (a b : List (List UInt8 × List UInt8)) (hl : a.length ≤ 1099511627776) (hb : b.length ≤ 1099511627776) (k : Nat) (h : b.take k = a) : C 42 [.sl 2 (a.map rcv), .sl 2 (((b.map rcv).drop 0).take (k - 0))] [] (pr (a = a)) [] false := by
  have e := vRecords_c a (b.take k) hl (by rw [List.length_take]; omega)
  rw [h] at e
  rw [List.drop_zero, Nat.sub_zero, ← List.map_take, h]
  exact e
theorem FnCrashes_c (L : List UInt8) (hL : L.length ≤ 9223372036854775807) : C 11 [.sl 1 (L.map i8)] [] .tt [] false := by
  refine mkC false false Tryd.func11 rfl ?_
  refine And.intro nofun ?_
  by_cases hb : 65536 < (L.length : Int)
  · refine callW.mk [] 0 _ _ _ (vBig_c _ (by first | omega | assumption | (simp; omega) | (simp; done) | exact trivial)) rfl rfl trivial nofun ?_
    refine tY (by first | omega | assumption | exact rfl | exact Iff.rfl | exact ⟨rfl, rfl⟩ | exact ⟨rfl, rfl, rfl⟩) ?_
    rotate_left
    refine doneV.mk [] [] rfl rfl ?_ ?_ ?_
    repeat' first | exact trivial | exact rfl | exact Iff.rfl | assumption | exact pureI | exact (show _ = _ by omega) | exact (show _ ≤ _ by omega) | exact (show _ < _ by omega) | exact (show ¬ _ by omega) | refine And.intro ?_ ?_
  · refine callW.mk [] 0 _ _ _ (vBig_c _ (by first | omega | assumption | (simp; omega) | (simp; done) | exact trivial)) rfl rfl trivial nofun ?_
    refine tN (by first | omega | assumption | exact fun h => h (by assumption) | exact fun h => h rfl | exact fun h => h Iff.rfl | exact fun h => h ⟨rfl, rfl⟩ | exact fun h => h ⟨rfl, rfl, rfl⟩) ?_
    refine callW.mkE [] [] 0 _ _ _ _ (DrawCrashLog_c _ (by first | omega | assumption | (simp; omega) | (simp; done) | exact trivial)) rfl rfl trivial nofun (fun _ _ => ?_)
    iterate 5 refine Z ?_
    refine callW.mk [] 1 _ _ _ (CrashLog_c _ _ _ _ _ (by first | omega | assumption | (simp; omega) | (simp; done) | exact trivial) (by first | omega | assumption | (simp; omega) | (simp; done) | exact trivial)) rfl rfl trivial nofun ?_
    refine callW.mk [] 1 _ _ _ (sCrashLog_c _ _ _ _ _ (by first | omega | assumption | (simp; omega) | (simp; done) | exact trivial) (by first | omega | assumption | (simp; omega) | (simp; done) | exact trivial)) rfl rfl trivial nofun ?_
    refine callW.mkE [] [] 1 _ _ _ _ (vCut_c _ (by first | omega | assumption | (simp; omega) | (simp; done) | exact trivial) _ (by first | omega | assumption | (simp; omega) | (simp; done) | exact trivial)) rfl rfl trivial nofun (fun _ _ => ?_)
    refine callW.mkE [] [] 2 _ _ _ _ (DrawRecoverLog_c _ (by first | omega | assumption | (simp; omega) | (simp; done) | exact trivial)) rfl rfl trivial nofun (fun _ _ => ?_)
    refine callW.mk [] 2 _ _ _ (RecoverLog_c _ (by first | omega | assumption | (simp; omega) | (simp; done) | exact trivial)) rfl rfl trivial nofun ?_
    iterate 5 refine Z ?_
    refine callW.mk [] 3 _ _ _ (sRecoverLog_c _ (by first | omega | assumption | (simp; omega) | (simp; done) | exact trivial)) rfl rfl trivial nofun ?_
    iterate 5 refine Z ?_
    iterate 2 refine tN (by first | omega | assumption | exact fun h => h (by assumption) | exact fun h => h rfl | exact fun h => h Iff.rfl | exact fun h => h ⟨rfl, rfl⟩ | exact fun h => h ⟨rfl, rfl, rfl⟩) ?_
    refine stP.mk (by kernel_rfl) ?_
    iterate 3 refine tN (by first | omega | assumption | exact fun h => h (by assumption) | exact fun h => h rfl | exact fun h => h Iff.rfl | exact fun h => h ⟨rfl, rfl⟩ | exact fun h => h ⟨rfl, rfl, rfl⟩) ?_
    refine twoN (fun _ => ?_) (fun _ => ?_)
    iterate 2 rotate_left
    · refine doneV.mk [] [] rfl rfl ?_ ?_ ?_
      repeat' first | exact trivial | exact rfl | exact Iff.rfl | assumption | exact pureI | exact (show _ = _ by omega) | exact (show _ ≤ _ by omega) | exact (show _ < _ by omega) | exact (show ¬ _ by omega) | refine And.intro ?_ ?_
    · rename_i e1 h1 V1 k1 e2 h2 hc
      obtain ⟨⟨D, P, n⟩, q, t⟩ := e1
      dsimp only at h1 hc
      obtain ⟨s, hs⟩ : ∃ s, s = leftB D P q.toNat t := ⟨_, rfl⟩
      have hcs : crS D P n q t = s := by rw [hs]; exact if_pos hc
      obtain ⟨c1, c2, c3, c4, c5⟩ := crash hc s hs
      obtain ⟨r1, r2, r3⟩ := rcv_log c1
      obtain ⟨R, hR⟩ : ∃ R, recsB s = R := ⟨_, rfl⟩
      have hlR : R.length = cntB s := by rw [← hR]; exact (recs_lenX s).1
      have hla := recs_lenX (D ++ P)
      have hlv := hc.1
      have hpre : (recsB (D ++ P)).take R.length = R := by rw [hlR, ← c3, hR]
      have hq6 := hc.2
      have hrl : (rcvS s).length ≤ 30000 := by rw [rcvS_yes c1, List.length_take]; omega
      simp only [hcs]
      by_cases ht : t = true
      · refine callW.mk [] 4 _ _ _ (RecoverLog_c _ (by first | omega | assumption | (simp; omega) | (simp; done) | exact trivial)) rfl rfl trivial nofun ?_
        iterate 5 refine Z ?_
        refine tN (by first | omega | assumption | exact fun h => h (by assumption) | exact fun h => h rfl | exact fun h => h Iff.rfl | exact fun h => h ⟨rfl, rfl⟩ | exact fun h => h ⟨rfl, rfl, rfl⟩) ?_
        refine callW.mk [] 5 _ _ _ (IsValidLog_c _ _ _ (by first | omega | assumption | (simp; omega) | (simp; done) | exact trivial) (by first | omega | assumption | (simp; omega) | (simp; done) | exact trivial)) rfl rfl trivial nofun ?_
        refine tN (by first | omega | assumption | exact fun h => h (by assumption) | exact fun h => h rfl | exact fun h => h Iff.rfl | exact fun h => h ⟨rfl, rfl⟩ | exact fun h => h ⟨rfl, rfl, rfl⟩) ?_
        refine Z ?_
        refine lenS.mk _ rfl ?_
        refine tN (by first | omega | assumption | exact fun h => h (by assumption) | exact fun h => h rfl | exact fun h => h Iff.rfl | exact fun h => h ⟨rfl, rfl⟩ | exact fun h => h ⟨rfl, rfl, rfl⟩) ?_
        refine Z ?_
        refine lenS.mk _ rfl ?_
        refine tN (by first | omega | assumption | exact fun h => h (by assumption) | exact fun h => h rfl | exact fun h => h Iff.rfl | exact fun h => h ⟨rfl, rfl⟩ | exact fun h => h ⟨rfl, rfl, rfl⟩) ?_
        refine callW.mk [] 5 _ _ _ ((allRecords_c D P n (by omega) (by omega) hlv)) rfl rfl (by repeat' first | exact trivial | assumption | exact knownSS | exact knownApp knownSS knownNil | refine And.intro ?_ ?_) nofun ?_
        refine callW.mk [] 6 _ _ _ ((readRecordsS_c s c1 R hR)) rfl rfl (by repeat' first | exact trivial | assumption | exact knownSS | exact knownApp knownSS knownNil | refine And.intro ?_ ?_) nofun ?_
        iterate 2 refine lm ?_
        refine tY (by first | omega | assumption | exact rfl | exact Iff.rfl | exact ⟨rfl, rfl⟩ | exact ⟨rfl, rfl, rfl⟩) ?_
        refine lm ?_
        iterate 2 refine Z ?_
        refine jkm1 (by omega) ?_
        refine callW.mk [] 7 _ _ _ ((vRecordsPart2_c R (recsB (D ++ P)) (by omega) (by omega) R.length hpre)) rfl rfl (by repeat' first | exact trivial | assumption | exact knownSS | exact knownApp knownSS knownNil | refine And.intro ?_ ?_) nofun ?_
        iterate 2 refine tY (by first | omega | assumption | exact rfl | exact Iff.rfl | exact ⟨rfl, rfl⟩ | exact ⟨rfl, rfl, rfl⟩) ?_
        rotate_left
        refine doneV.mk [] [] rfl rfl ?_ ?_ ?_
        repeat' first | exact trivial | exact rfl | exact Iff.rfl | assumption | exact pureI | exact (show _ = _ by omega) | exact (show _ ≤ _ by omega) | exact (show _ < _ by omega) | exact (show ¬ _ by omega) | refine And.intro ?_ ?_
      · by_cases hq : q < P.length
        · refine callW.mk [] 4 _ _ _ (RecoverLog_c _ (by first | omega | assumption | (simp; omega) | (simp; done) | exact trivial)) rfl rfl trivial nofun ?_
          iterate 5 refine Z ?_
          refine tN (by first | omega | assumption | exact fun h => h (by assumption) | exact fun h => h rfl | exact fun h => h Iff.rfl | exact fun h => h ⟨rfl, rfl⟩ | exact fun h => h ⟨rfl, rfl, rfl⟩) ?_
          refine callW.mk [] 5 _ _ _ (IsValidLog_c _ _ _ (by first | omega | assumption | (simp; omega) | (simp; done) | exact trivial) (by first | omega | assumption | (simp; omega) | (simp; done) | exact trivial)) rfl rfl trivial nofun ?_
          refine tN (by first | omega | assumption | exact fun h => h (by assumption) | exact fun h => h rfl | exact fun h => h Iff.rfl | exact fun h => h ⟨rfl, rfl⟩ | exact fun h => h ⟨rfl, rfl, rfl⟩) ?_
          refine Z ?_
          refine lenS.mk _ rfl ?_
          refine tN (by first | omega | assumption | exact fun h => h (by assumption) | exact fun h => h rfl | exact fun h => h Iff.rfl | exact fun h => h ⟨rfl, rfl⟩ | exact fun h => h ⟨rfl, rfl, rfl⟩) ?_
          refine Z ?_
          refine lenS.mk _ rfl ?_
          refine tN (by first | omega | assumption | exact fun h => h (by assumption) | exact fun h => h rfl | exact fun h => h Iff.rfl | exact fun h => h ⟨rfl, rfl⟩ | exact fun h => h ⟨rfl, rfl, rfl⟩) ?_
          refine callW.mk [] 5 _ _ _ ((allRecords_c D P n (by omega) (by omega) hlv)) rfl rfl (by repeat' first | exact trivial | assumption | exact knownSS | exact knownApp knownSS knownNil | refine And.intro ?_ ?_) nofun ?_
          refine callW.mk [] 6 _ _ _ ((readRecordsS_c s c1 R hR)) rfl rfl (by repeat' first | exact trivial | assumption | exact knownSS | exact knownApp knownSS knownNil | refine And.intro ?_ ?_) nofun ?_
          iterate 2 refine lm ?_
          refine tY (by first | omega | assumption | exact rfl | exact Iff.rfl | exact ⟨rfl, rfl⟩ | exact ⟨rfl, rfl, rfl⟩) ?_
          refine lm ?_
          iterate 2 refine Z ?_
          refine jkm1 (by omega) ?_
          refine callW.mk [] 7 _ _ _ ((vRecordsPart2_c R (recsB (D ++ P)) (by omega) (by omega) R.length hpre)) rfl rfl (by repeat' first | exact trivial | assumption | exact knownSS | exact knownApp knownSS knownNil | refine And.intro ?_ ?_) nofun ?_
          refine tY (by first | omega | assumption | exact rfl | exact Iff.rfl | exact ⟨rfl, rfl⟩ | exact ⟨rfl, rfl, rfl⟩) ?_
          refine tN (by first | omega | assumption | exact fun h => h (by assumption) | exact fun h => h rfl | exact fun h => h Iff.rfl | exact fun h => h ⟨rfl, rfl⟩ | exact fun h => h ⟨rfl, rfl, rfl⟩) ?_
          refine Z ?_
          refine lenS.mk _ rfl ?_
          refine tY (by first | omega | assumption | exact rfl | exact Iff.rfl | exact ⟨rfl, rfl⟩ | exact ⟨rfl, rfl, rfl⟩) ?_
          rotate_left
          refine doneV.mk [] [] rfl rfl ?_ ?_ ?_
          repeat' first | exact trivial | exact rfl | exact Iff.rfl | assumption | exact pureI | exact (show _ = _ by omega) | exact (show _ ≤ _ by omega) | exact (show _ < _ by omega) | exact (show ¬ _ by omega) | refine And.intro ?_ ?_
        · have hend := c5 ht (by omega)
          refine callW.mk [] 4 _ _ _ (RecoverLog_c _ (by first | omega | assumption | (simp; omega) | (simp; done) | exact trivial)) rfl rfl trivial nofun ?_
          iterate 5 refine Z ?_
          refine tN (by first | omega | assumption | exact fun h => h (by assumption) | exact fun h => h rfl | exact fun h => h Iff.rfl | exact fun h => h ⟨rfl, rfl⟩ | exact fun h => h ⟨rfl, rfl, rfl⟩) ?_
          refine callW.mk [] 5 _ _ _ (IsValidLog_c _ _ _ (by first | omega | assumption | (simp; omega) | (simp; done) | exact trivial) (by first | omega | assumption | (simp; omega) | (simp; done) | exact trivial)) rfl rfl trivial nofun ?_
          refine tN (by first | omega | assumption | exact fun h => h (by assumption) | exact fun h => h rfl | exact fun h => h Iff.rfl | exact fun h => h ⟨rfl, rfl⟩ | exact fun h => h ⟨rfl, rfl, rfl⟩) ?_
          refine Z ?_
          refine lenS.mk _ rfl ?_
          refine tN (by first | omega | assumption | exact fun h => h (by assumption) | exact fun h => h rfl | exact fun h => h Iff.rfl | exact fun h => h ⟨rfl, rfl⟩ | exact fun h => h ⟨rfl, rfl, rfl⟩) ?_
          refine Z ?_
          refine lenS.mk _ rfl ?_
          refine tN (by first | omega | assumption | exact fun h => h (by assumption) | exact fun h => h rfl | exact fun h => h Iff.rfl | exact fun h => h ⟨rfl, rfl⟩ | exact fun h => h ⟨rfl, rfl, rfl⟩) ?_
          refine callW.mk [] 5 _ _ _ ((allRecords_c D P n (by omega) (by omega) hlv)) rfl rfl (by repeat' first | exact trivial | assumption | exact knownSS | exact knownApp knownSS knownNil | refine And.intro ?_ ?_) nofun ?_
          refine callW.mk [] 6 _ _ _ ((readRecordsS_c s c1 R hR)) rfl rfl (by repeat' first | exact trivial | assumption | exact knownSS | exact knownApp knownSS knownNil | refine And.intro ?_ ?_) nofun ?_
          iterate 2 refine lm ?_
          refine tY (by first | omega | assumption | exact rfl | exact Iff.rfl | exact ⟨rfl, rfl⟩ | exact ⟨rfl, rfl, rfl⟩) ?_
          refine lm ?_
          iterate 2 refine Z ?_
          refine jkm1 (by omega) ?_
          refine callW.mk [] 7 _ _ _ ((vRecordsPart2_c R (recsB (D ++ P)) (by omega) (by omega) R.length hpre)) rfl rfl (by repeat' first | exact trivial | assumption | exact knownSS | exact knownApp knownSS knownNil | refine And.intro ?_ ?_) nofun ?_
          refine tY (by first | omega | assumption | exact rfl | exact Iff.rfl | exact ⟨rfl, rfl⟩ | exact ⟨rfl, rfl, rfl⟩) ?_
          refine tN (by first | omega | assumption | exact fun h => h (by assumption) | exact fun h => h rfl | exact fun h => h Iff.rfl | exact fun h => h ⟨rfl, rfl⟩ | exact fun h => h ⟨rfl, rfl, rfl⟩) ?_
          refine Z ?_
          refine lenS.mk _ rfl ?_
          refine tN (by first | omega | assumption | exact fun h => h (by assumption) | exact fun h => h rfl | exact fun h => h Iff.rfl | exact fun h => h ⟨rfl, rfl⟩ | exact fun h => h ⟨rfl, rfl, rfl⟩) ?_
          iterate 2 refine lm ?_
          rotate_left
          refine dv0 rfl ?_
          show (R.length : Int) = ((recsB (D ++ P)).length : Int)
          omega
end Sx
