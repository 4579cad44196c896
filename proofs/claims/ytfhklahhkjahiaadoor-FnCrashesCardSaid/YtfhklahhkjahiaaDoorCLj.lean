/- Contracts: the law of logs. -/
import Derived.Test.YtfhklahhkjahiaaDoorCDv
import Derived.Test.YtfhklahhkjahiaaDoorCLd
import Derived.Test.YtfhklahhkjahiaaDoorCLi
set_option linter.all false
namespace Sx
open Go Go.Proofs
set_option maxRecDepth 100000
set_option maxHeartbeats 8000000
set_option linter.unusedSimpArgs false
set_option linter.unusedSectionVars false
variable [Glb]
variable [HasTab]
theorem vRecords_c (a b : List (List UInt8 × List UInt8)) (hl : a.length ≤ 1099511627776) (hb : b.length ≤ 1099511627776) : C 42 [.sl 2 (a.map rcv), .sl 2 (b.map rcv)] [] (pr (a = b)) [] false := by
  refine mkC false false Tryd.func42 rfl ?_
  refine And.intro nofun ?_
  iterate 2 refine lm ?_
  refine twoN (fun _ => ?_) (fun _ => ?_)
  iterate 2 rotate_left
  · rename_i h1
    refine dv0 rfl ?_
    exact fun h => h1 (by rw [h])
  · rename_i h1
    refine loop_up (β := Nat) (fun k => [(5, i64 k), (4, .unk)]) (fun k => []) [] (fun k => k ≤ a.length ∧ a.take k = b.take k) (fun k => a.length - k) (0) ?_ ?_ ?_
    · simp
    · refine weak.mk [] [] rfl rfl ?_ ?_
      repeat' first | exact trivial | exact rfl | exact Iff.rfl | assumption | refine And.intro ?_ ?_
    · rintro k ⟨hk, hi⟩ R hR
      by_cases hkl : k < a.length
      · refine lm ?_
        refine tY (by first | omega | assumption | exact rfl | exact Iff.rfl | exact ⟨rfl, rfl⟩ | exact ⟨rfl, rfl, rfl⟩) ?_
        refine drawP.mkS (Z (Z ?_))
        refine Z ?_
        apply exP.mk
        exact rfl
        apply exP.mk
        exact rfl
        apply exP.mk
        iterate 2 refine Z ?_
        refine jkm (by omega) ?_
        exact rfl
        apply exP.mk
        refine gm (by omega) ?_
        exact rfl
        apply exP.mk
        exact rfl
        apply exP.mk
        exact rfl
        apply exP.mk
        iterate 2 refine Z ?_
        refine jkm (by omega) ?_
        exact rfl
        apply exP.mk
        refine gm (by omega) ?_
        exact rfl
        apply exP.mk
        refine stP.mk (by kernel_rfl) ?_
        exact rfl
        refine twoN (fun _ => ?_) (fun _ => ?_)
        rotate_left
        refine nw (by omega) (by omega) ?_
        rotate_left
        · rename_i h3
          refine dv0 rfl ?_
          exact fun h => h3 (by subst h; exact ⟨rfl, rfl⟩)
        · rename_i h3
          refine hR (k + 1) _ _ ?_ (weak.mk [] [] rfl rfl ?_ ?_)
          repeat' first | exact trivial | exact rfl | exact Iff.rfl | assumption | refine And.intro ?_ ?_
          exact ⟨⟨by omega, (eq_take (by omega) (by omega)).2 ⟨hi, Prod.ext h3.1 h3.2⟩⟩, by omega⟩
      · refine lm ?_
        refine tN (by first | omega | assumption | exact fun h => h (by assumption) | exact fun h => h rfl | exact fun h => h Iff.rfl | exact fun h => h ⟨rfl, rfl⟩ | exact fun h => h ⟨rfl, rfl, rfl⟩) ?_
        rotate_left
        rw [List.take_of_length_le (by omega), List.take_of_length_le (by omega)] at hi
        refine dv0 rfl ?_
        exact hi
theorem keptRecords_c (D P : List UInt8) (n : Int) (hD : D.length ≤ 30000) (hP : P.length ≤ 30000) (h : logOk D P n) : C 30 [lgv (D ++ P) [] n] [] (.tuple [.loc 0, pr (logOk (D ++ P) [] n)]) [rowE (recsB (D ++ P))] false := by
  have e := LogRecords_c (D ++ P) [] n (by rw [List.length_append]; omega) (Nat.zero_le _)
  rw [if_pos (log_sync h).1, (log_sync h).2] at e
  exact e
theorem moreRecords_c (D P : List UInt8) (n : Int) (c r : List UInt8) (hD : D.length ≤ 30000) (hP : P.length ≤ 30000) (h : apOk D P n c r) : C 30 [lgv D (P ++ lineB n c r) (n + 1)] [] (.tuple [.loc 0, pr (logOk D (P ++ lineB n c r) (n + 1))]) [rowE (recsB (D ++ P) ++ [(c, r)])] false := by
  have hl := line_len (k := n) (logOk_n h.1.1).1 (by have := (logOk_n h.1.1).2; omega) h.1.2
  have e := LogRecords_c D (P ++ lineB n c r) (n + 1) (by omega) (by rw [List.length_append]; omega)
  rw [if_pos (log_more h).1, (log_more h).2] at e
  exact e
theorem vRecordsPart_c (a b : List (List UInt8 × List UInt8)) (hl : a.length ≤ 1099511627776) (hb : b.length ≤ 1099511627776) (k : Nat) (h : a.take k = b) : C 42 [.sl 2 (((a.map rcv).drop 0).take (k - 0)), .sl 2 (b.map rcv)] [] (pr (b = b)) [] false := by
  have e := vRecords_c (a.take k) b (by rw [List.length_take]; omega) hb
  rw [h] at e
  rw [List.drop_zero, Nat.sub_zero, ← List.map_take, h]
  exact e
theorem FnLogs_c (L : List UInt8) (hL : L.length ≤ 9223372036854775807) : C 10 [.sl 1 (L.map i8)] [] .tt [] false := by
  have sd1 : ∀ D P n, (if logOk D P n then recsB (D ++ P) else []).length ≤ 1099511627776 := fun D P n => by
    have := recs_lenX (D ++ P)
    split
    · omega
    · exact Nat.zero_le _
  have sd2 : ∀ D P n c r, P.length ≤ 30000 → 0 ≤ n ∧ n ≤ 60 → (apP D P n c r).length ≤ 1048576 := fun D P n c r h hn => by have := (ap_bd (D := D) (P := P) (c := c) (r := r) hn).1; omega
  refine mkC false false Tryd.func10 rfl ?_
  refine And.intro nofun ?_
  by_cases hb : 65536 < (L.length : Int)
  · refine callW.mk [] 0 _ _ _ (vBig_c _ (by first | omega | assumption | (simp; omega) | (simp; done) | exact trivial | (apply sd1 <;> first | omega | assumption) | (apply sd2 <;> first | omega | assumption))) rfl rfl trivial nofun ?_
    refine tY (by first | omega | assumption | exact rfl | exact Iff.rfl | exact ⟨rfl, rfl⟩ | exact ⟨rfl, rfl, rfl⟩) ?_
    rotate_left
    refine doneV.mk [] [] rfl rfl ?_ ?_ ?_
    repeat' first | exact trivial | exact rfl | exact Iff.rfl | assumption | exact pureI | exact (show _ = _ by omega) | exact (show _ ≤ _ by omega) | exact (show _ < _ by omega) | exact (show ¬ _ by omega) | refine And.intro ?_ ?_
  · refine callW.mk [] 0 _ _ _ (vBig_c _ (by first | omega | assumption | (simp; omega) | (simp; done) | exact trivial | (apply sd1 <;> first | omega | assumption) | (apply sd2 <;> first | omega | assumption))) rfl rfl trivial nofun ?_
    refine tN (by first | omega | assumption | exact fun h => h (by assumption) | exact fun h => h rfl | exact fun h => h Iff.rfl | exact fun h => h ⟨rfl, rfl⟩ | exact fun h => h ⟨rfl, rfl, rfl⟩) ?_
    refine callW.mkE [] [] 0 _ _ _ _ (DrawIsValidRecord_c _ (by first | omega | assumption | (simp; omega) | (simp; done) | exact trivial | (apply sd1 <;> first | omega | assumption) | (apply sd2 <;> first | omega | assumption))) rfl rfl trivial nofun (fun _ _ => ?_)
    iterate 5 refine Z ?_
    refine callW.mkE [] [] 1 _ _ _ _ (vCut_c _ (by first | omega | assumption | (simp; omega) | (simp; done) | exact trivial | (apply sd1 <;> first | omega | assumption) | (apply sd2 <;> first | omega | assumption)) _ (by first | omega | assumption | (simp; omega) | (simp; done) | exact trivial | (apply sd1 <;> first | omega | assumption) | (apply sd2 <;> first | omega | assumption))) rfl rfl trivial nofun (fun _ _ => ?_)
    refine callW.mkE [] [] 2 _ _ _ _ (DrawEncodeRecord_c _ (by first | omega | assumption | (simp; omega) | (simp; done) | exact trivial | (apply sd1 <;> first | omega | assumption) | (apply sd2 <;> first | omega | assumption))) rfl rfl trivial nofun (fun _ _ => ?_)
    iterate 5 refine Z ?_
    refine callW.mk [] 3 _ _ _ (EncodeRecord_c _ _ _ (by first | omega | assumption | (simp; omega) | (simp; done) | exact trivial | (apply sd1 <;> first | omega | assumption) | (apply sd2 <;> first | omega | assumption)) (by first | omega | assumption | (simp; omega) | (simp; done) | exact trivial | (apply sd1 <;> first | omega | assumption) | (apply sd2 <;> first | omega | assumption))) rfl rfl trivial nofun ?_
    refine callW.mk [] 3 _ _ _ (sEncodeRecord_c _ _ _ (by first | omega | assumption | (simp; omega) | (simp; done) | exact trivial | (apply sd1 <;> first | omega | assumption) | (apply sd2 <;> first | omega | assumption)) (by first | omega | assumption | (simp; omega) | (simp; done) | exact trivial | (apply sd1 <;> first | omega | assumption) | (apply sd2 <;> first | omega | assumption))) rfl rfl trivial nofun ?_
    refine callW.mkE [] [] 3 _ _ _ _ (vCut_c _ (by first | omega | assumption | (simp; omega) | (simp; done) | exact trivial | (apply sd1 <;> first | omega | assumption) | (apply sd2 <;> first | omega | assumption)) _ (by first | omega | assumption | (simp; omega) | (simp; done) | exact trivial | (apply sd1 <;> first | omega | assumption) | (apply sd2 <;> first | omega | assumption))) rfl rfl trivial nofun (fun _ _ => ?_)
    refine callW.mkE [] [] 4 _ _ _ _ (DrawIsValidLog_c _ (by first | omega | assumption | (simp; omega) | (simp; done) | exact trivial | (apply sd1 <;> first | omega | assumption) | (apply sd2 <;> first | omega | assumption))) rfl rfl trivial nofun (fun _ _ => ?_)
    iterate 5 refine Z ?_
    refine callW.mkE [] [] 5 _ _ _ _ (vCut_c _ (by first | omega | assumption | (simp; omega) | (simp; done) | exact trivial | (apply sd1 <;> first | omega | assumption) | (apply sd2 <;> first | omega | assumption)) _ (by first | omega | assumption | (simp; omega) | (simp; done) | exact trivial | (apply sd1 <;> first | omega | assumption) | (apply sd2 <;> first | omega | assumption))) rfl rfl trivial nofun (fun _ _ => ?_)
    refine callW.mkE [] [] 6 _ _ _ _ (DrawAppendRecord_c _ (by first | omega | assumption | (simp; omega) | (simp; done) | exact trivial | (apply sd1 <;> first | omega | assumption) | (apply sd2 <;> first | omega | assumption))) rfl rfl trivial nofun (fun _ _ => ?_)
    iterate 10 refine Z ?_
    refine callW.mk [] 8 _ _ _ (AppendRecord_c _ _ _ _ _ (by first | omega | assumption | (simp; omega) | (simp; done) | exact trivial | (apply sd1 <;> first | omega | assumption) | (apply sd2 <;> first | omega | assumption)) (by first | omega | assumption | (simp; omega) | (simp; done) | exact trivial | (apply sd1 <;> first | omega | assumption) | (apply sd2 <;> first | omega | assumption)) (by first | omega | assumption | (simp; omega) | (simp; done) | exact trivial | (apply sd1 <;> first | omega | assumption) | (apply sd2 <;> first | omega | assumption)) (by first | omega | assumption | (simp; omega) | (simp; done) | exact trivial | (apply sd1 <;> first | omega | assumption) | (apply sd2 <;> first | omega | assumption))) rfl rfl trivial nofun ?_
    iterate 5 refine Z ?_
    refine callW.mk [] 9 _ _ _ (sAppendRecord_c _ _ _ _ _ (by first | omega | assumption | (simp; omega) | (simp; done) | exact trivial | (apply sd1 <;> first | omega | assumption) | (apply sd2 <;> first | omega | assumption)) (by first | omega | assumption | (simp; omega) | (simp; done) | exact trivial | (apply sd1 <;> first | omega | assumption) | (apply sd2 <;> first | omega | assumption)) (by first | omega | assumption | (simp; omega) | (simp; done) | exact trivial | (apply sd1 <;> first | omega | assumption) | (apply sd2 <;> first | omega | assumption)) (by first | omega | assumption | (simp; omega) | (simp; done) | exact trivial | (apply sd1 <;> first | omega | assumption) | (apply sd2 <;> first | omega | assumption))) rfl rfl trivial nofun ?_
    iterate 5 refine Z ?_
    refine drawP.mk 32 (Z (Z (Z (Z ?_))))
    apply exP.mk
    exact rfl
    apply exP.mk
    refine callP.mk _ _ _ (IsValidRecord_c _ _ (by first | omega | assumption | (simp; omega) | (simp; done) | exact trivial | (apply sd1 <;> first | omega | assumption) | (apply sd2 <;> first | omega | assumption)) (by first | omega | assumption | (simp; omega) | (simp; done) | exact trivial | (apply sd1 <;> first | omega | assumption) | (apply sd2 <;> first | omega | assumption))) trivial nofun trivial ?_
    exact rfl
    apply exP.mk
    exact rfl
    apply exP.mk
    refine callP.mk _ _ _ (specIsValidRecord_c _ _ (by first | omega | assumption | (simp; omega) | (simp; done) | exact trivial | (apply sd1 <;> first | omega | assumption) | (apply sd2 <;> first | omega | assumption)) (by first | omega | assumption | (simp; omega) | (simp; done) | exact trivial | (apply sd1 <;> first | omega | assumption) | (apply sd2 <;> first | omega | assumption))) trivial nofun trivial ?_
    exact rfl
    apply exP.mk
    exact rfl
    apply exP.mk
    exact rfl
    refine tN (by first | omega | assumption | exact fun h => h (by assumption) | exact fun h => h rfl | exact fun h => h Iff.rfl | exact fun h => h ⟨rfl, rfl⟩ | exact fun h => h ⟨rfl, rfl, rfl⟩) ?_
    apply exP.mk
    exact rfl
    apply exP.mk
    exact rfl
    apply exP.mk
    exact rfl
    apply exP.mk
    exact rfl
    refine tN (by first | omega | assumption | exact fun h => h (by assumption) | exact fun h => h rfl | exact fun h => h Iff.rfl | exact fun h => h ⟨rfl, rfl⟩ | exact fun h => h ⟨rfl, rfl, rfl⟩) ?_
    apply exP.mk
    exact rfl
    apply exP.mk
    exact rfl
    apply exP.mk
    exact rfl
    apply exP.mk
    exact rfl
    refine tN (by first | omega | assumption | exact fun h => h (by assumption) | exact fun h => h rfl | exact fun h => h Iff.rfl | exact fun h => h ⟨rfl, rfl⟩ | exact fun h => h ⟨rfl, rfl, rfl⟩) ?_
    apply exP.mk
    exact rfl
    apply exP.mk
    refine callP.mk _ _ _ (IsValidLog_c _ _ _ (by first | omega | assumption | (simp; omega) | (simp; done) | exact trivial | (apply sd1 <;> first | omega | assumption) | (apply sd2 <;> first | omega | assumption)) (by first | omega | assumption | (simp; omega) | (simp; done) | exact trivial | (apply sd1 <;> first | omega | assumption) | (apply sd2 <;> first | omega | assumption))) trivial nofun trivial ?_
    exact rfl
    apply exP.mk
    exact rfl
    apply exP.mk
    refine callP.mk _ _ _ (specIsValidLog_c _ _ _ (by first | omega | assumption | (simp; omega) | (simp; done) | exact trivial | (apply sd1 <;> first | omega | assumption) | (apply sd2 <;> first | omega | assumption)) (by first | omega | assumption | (simp; omega) | (simp; done) | exact trivial | (apply sd1 <;> first | omega | assumption) | (apply sd2 <;> first | omega | assumption))) trivial nofun trivial ?_
    exact rfl
    apply exP.mk
    exact rfl
    apply exP.mk
    exact rfl
    refine tN (by first | omega | assumption | exact fun h => h (by assumption) | exact fun h => h rfl | exact fun h => h Iff.rfl | exact fun h => h ⟨rfl, rfl⟩ | exact fun h => h ⟨rfl, rfl, rfl⟩) ?_
    apply exP.mk
    exact rfl
    apply exP.mk
    exact rfl
    apply exP.mk
    refine stP.mk (by kernel_rfl) ?_
    exact rfl
    apply exP.mk
    exact rfl
    refine tN (by first | omega | assumption | exact fun h => h (by assumption) | exact fun h => h rfl | exact fun h => h Iff.rfl | exact fun h => h ⟨rfl, rfl⟩ | exact fun h => h ⟨rfl, rfl, rfl⟩) ?_
    apply exP.mk
    exact rfl
    apply exP.mk
    exact rfl
    apply exP.mk
    exact rfl
    refine tN (by first | omega | assumption | exact fun h => h (by assumption) | exact fun h => h rfl | exact fun h => h Iff.rfl | exact fun h => h ⟨rfl, rfl⟩ | exact fun h => h ⟨rfl, rfl, rfl⟩) ?_
    refine callW.mk [] 10 _ _ _ (SyncLog_c _ _ _ (by first | omega | assumption | (simp; omega) | (simp; done) | exact trivial | (apply sd1 <;> first | omega | assumption) | (apply sd2 <;> first | omega | assumption)) (by first | omega | assumption | (simp; omega) | (simp; done) | exact trivial | (apply sd1 <;> first | omega | assumption) | (apply sd2 <;> first | omega | assumption))) rfl rfl trivial nofun ?_
    iterate 5 refine Z ?_
    refine callW.mk [] 11 _ _ _ (sSyncLog_c _ _ _ (by first | omega | assumption | (simp; omega) | (simp; done) | exact trivial | (apply sd1 <;> first | omega | assumption) | (apply sd2 <;> first | omega | assumption)) (by first | omega | assumption | (simp; omega) | (simp; done) | exact trivial | (apply sd1 <;> first | omega | assumption) | (apply sd2 <;> first | omega | assumption))) rfl rfl trivial nofun ?_
    iterate 5 refine Z ?_
    refine callW.mk [] 12 _ _ _ (LogRecords_c _ _ _ (by first | omega | assumption | (simp; omega) | (simp; done) | exact trivial | (apply sd1 <;> first | omega | assumption) | (apply sd2 <;> first | omega | assumption)) (by first | omega | assumption | (simp; omega) | (simp; done) | exact trivial | (apply sd1 <;> first | omega | assumption) | (apply sd2 <;> first | omega | assumption))) rfl rfl trivial nofun ?_
    refine callW.mk [] 13 _ _ _ (sLogRecords_c _ _ _ (by first | omega | assumption | (simp; omega) | (simp; done) | exact trivial | (apply sd1 <;> first | omega | assumption) | (apply sd2 <;> first | omega | assumption)) (by first | omega | assumption | (simp; omega) | (simp; done) | exact trivial | (apply sd1 <;> first | omega | assumption) | (apply sd2 <;> first | omega | assumption))) rfl rfl trivial nofun ?_
    refine stP.mk (by kernel_rfl) ?_
    iterate 3 refine tN (by first | omega | assumption | exact fun h => h (by assumption) | exact fun h => h rfl | exact fun h => h Iff.rfl | exact fun h => h ⟨rfl, rfl⟩ | exact fun h => h ⟨rfl, rfl, rfl⟩) ?_
    refine callW.mk [] 14 _ _ _ (vRecords_c _ _ (by first | omega | assumption | (simp; omega) | (simp; done) | exact trivial | (apply sd1 <;> first | omega | assumption) | (apply sd2 <;> first | omega | assumption)) (by first | omega | assumption | (simp; omega) | (simp; done) | exact trivial | (apply sd1 <;> first | omega | assumption) | (apply sd2 <;> first | omega | assumption))) rfl rfl trivial nofun ?_
    refine tN (by first | omega | assumption | exact fun h => h (by assumption) | exact fun h => h rfl | exact fun h => h Iff.rfl | exact fun h => h ⟨rfl, rfl⟩ | exact fun h => h ⟨rfl, rfl, rfl⟩) ?_
    rotate_left
    rename_i e1 h1 V1 k1 e2 h2 V2 k2 e3 h3 V3 k3 e4 h4
    obtain ⟨⟨D, P, n⟩, c, r⟩ := e4
    dsimp only at h4
    have hlen := recs_lenX (D ++ P)
    by_cases hv : logOk D P n
    · have hk := (log_sync hv).1
      simp only [if_pos hv]
      by_cases ha : apOk D P n c r
      · have ⟨a1, a2, a3⟩ := ap_yes ha
        have hm := (log_more ha).1
        have hnn := logOk_n hv
        have hll : (P ++ lineB n c r).length ≤ 1048576 := by
          have hl := line_len (k := n) hnn.1 (by omega) ha.1.2
          rw [List.length_append]
          omega
        have hlen2 : (recsB (D ++ P) ++ [(c, r)]).length = (recsB (D ++ P)).length + 1 := by rw [List.length_append, List.length_singleton]
        have hat : (recsB (D ++ P) ++ [(c, r)])[(recsB (D ++ P)).length]'(by rw [hlen2]; omega) = (c, r) := by simp
        simp only [a1, a2, a3]
        refine callW.mk [] 14 _ _ _ ((keptRecords_c D P n (by omega) (by omega) hv)) rfl rfl (by repeat' first | exact trivial | assumption | exact knownSS | exact knownApp knownSS knownNil | refine And.intro ?_ ?_) nofun ?_
        refine tY (by first | omega | assumption | exact rfl | exact Iff.rfl | exact ⟨rfl, rfl⟩ | exact ⟨rfl, rfl, rfl⟩) ?_
        refine callW.mk [] 15 _ _ _ (vRecords_c _ _ (by first | omega | assumption | (simp; omega) | (simp; done) | exact trivial | (apply sd1 <;> first | omega | assumption) | (apply sd2 <;> first | omega | assumption)) (by first | omega | assumption | (simp; omega) | (simp; done) | exact trivial | (apply sd1 <;> first | omega | assumption) | (apply sd2 <;> first | omega | assumption))) rfl rfl trivial nofun ?_
        iterate 2 refine tN (by first | omega | assumption | exact fun h => h (by assumption) | exact fun h => h rfl | exact fun h => h Iff.rfl | exact fun h => h ⟨rfl, rfl⟩ | exact fun h => h ⟨rfl, rfl, rfl⟩) ?_
        refine callW.mk [] 15 _ _ _ ((moreRecords_c D P n c r (by omega) (by omega) ha)) rfl rfl (by repeat' first | exact trivial | assumption | exact knownSS | exact knownApp knownSS knownNil | refine And.intro ?_ ?_) nofun ?_
        refine drawP.mk 28 (Z (Z (Z (Z ?_))))
        apply exP.mk
        exact rfl
        apply exP.mk
        refine callP.mk _ _ _ (IsValidLog_c _ _ _ (by first | omega | assumption | (simp; omega) | (simp; done) | exact trivial | (apply sd1 <;> first | omega | assumption) | (apply sd2 <;> first | omega | assumption)) (by first | omega | assumption | (simp; omega) | (simp; done) | exact trivial | (apply sd1 <;> first | omega | assumption) | (apply sd2 <;> first | omega | assumption))) trivial nofun trivial ?_
        exact rfl
        apply exP.mk
        exact rfl
        refine tY (by first | omega | assumption | exact rfl | exact Iff.rfl | exact ⟨rfl, rfl⟩ | exact ⟨rfl, rfl, rfl⟩) ?_
        apply exP.mk
        exact rfl
        apply exP.mk
        refine lm ?_
        exact rfl
        apply exP.mk
        exact rfl
        apply exP.mk
        refine lm ?_
        exact rfl
        apply exP.mk
        refine nw (by omega) (by omega) ?_
        exact rfl
        apply exP.mk
        exact rfl
        apply exP.mk
        exact rfl
        refine tY (by first | omega | assumption | exact rfl | exact Iff.rfl | exact ⟨rfl, rfl⟩ | exact ⟨rfl, rfl, rfl⟩) ?_
        apply exP.mk
        exact rfl
        apply exP.mk
        exact rfl
        apply exP.mk
        refine lm ?_
        exact rfl
        apply exP.mk
        iterate 2 refine Z ?_
        refine jkm1 (by omega) ?_
        exact rfl
        apply exP.mk
        exact rfl
        apply exP.mk
        refine callP.mk _ _ _ ((vRecordsPart_c (recsB (D ++ P) ++ [(c, r)]) (recsB (D ++ P)) (by omega) (by omega) (recsB (D ++ P)).length (by rw [List.take_left' rfl]))) (by repeat' first | exact trivial | assumption | exact knownSS | exact knownApp knownSS knownNil | refine And.intro ?_ ?_) nofun trivial ?_
        exact rfl
        apply exP.mk
        exact rfl
        refine tY (by first | omega | assumption | exact rfl | exact Iff.rfl | exact ⟨rfl, rfl⟩ | exact ⟨rfl, rfl, rfl⟩) ?_
        apply exP.mk
        exact rfl
        apply exP.mk
        exact rfl
        apply exP.mk
        refine lm ?_
        exact rfl
        apply exP.mk
        iterate 2 refine Z ?_
        refine jkm (by omega) ?_
        exact rfl
        apply exP.mk
        refine gmv (by omega) hat ?_
        exact rfl
        apply exP.mk
        exact rfl
        apply exP.mk
        refine stP.mk (by kernel_rfl) ?_
        exact rfl
        apply exP.mk
        exact rfl
        rotate_left
        refine dv0 rfl ?_
        exact ⟨rfl, rfl⟩
      · have ⟨a1, a2, a3⟩ := ap_no ha
        simp only [a1, a2]
        refine callW.mk [] 14 _ _ _ ((keptRecords_c D P n (by omega) (by omega) hv)) rfl rfl (by repeat' first | exact trivial | assumption | exact knownSS | exact knownApp knownSS knownNil | refine And.intro ?_ ?_) nofun ?_
        refine tY (by first | omega | assumption | exact rfl | exact Iff.rfl | exact ⟨rfl, rfl⟩ | exact ⟨rfl, rfl, rfl⟩) ?_
        refine callW.mk [] 15 _ _ _ (vRecords_c _ _ (by first | omega | assumption | (simp; omega) | (simp; done) | exact trivial | (apply sd1 <;> first | omega | assumption) | (apply sd2 <;> first | omega | assumption)) (by first | omega | assumption | (simp; omega) | (simp; done) | exact trivial | (apply sd1 <;> first | omega | assumption) | (apply sd2 <;> first | omega | assumption))) rfl rfl trivial nofun ?_
        refine tN (by first | omega | assumption | exact fun h => h (by assumption) | exact fun h => h rfl | exact fun h => h Iff.rfl | exact fun h => h ⟨rfl, rfl⟩ | exact fun h => h ⟨rfl, rfl, rfl⟩) ?_
        refine tY (by first | omega | assumption | exact rfl | exact Iff.rfl | exact ⟨rfl, rfl⟩ | exact ⟨rfl, rfl, rfl⟩) ?_
        refine stP.mk (by kernel_rfl) ?_
        rotate_left
        refine dv0 rfl ?_
        exact ⟨rfl, rfl, rfl⟩
    · simp only [if_neg hv]
      have ⟨a1, a2, a3⟩ := ap_no (c := c) (r := r) (fun h => hv h.1.1)
      simp only [a1, a2]
      refine callW.mk [] 14 _ _ _ (LogRecords_c _ _ _ (by first | omega | assumption | (simp; omega) | (simp; done) | exact trivial | (apply sd1 <;> first | omega | assumption) | (apply sd2 <;> first | omega | assumption)) (by first | omega | assumption | (simp; omega) | (simp; done) | exact trivial | (apply sd1 <;> first | omega | assumption) | (apply sd2 <;> first | omega | assumption))) rfl rfl trivial nofun ?_
      refine tN (by first | omega | assumption | exact fun h => h (by assumption) | exact fun h => h rfl | exact fun h => h Iff.rfl | exact fun h => h ⟨rfl, rfl⟩ | exact fun h => h ⟨rfl, rfl, rfl⟩) ?_
      refine tY (by first | omega | assumption | exact rfl | exact Iff.rfl | exact ⟨rfl, rfl⟩ | exact ⟨rfl, rfl, rfl⟩) ?_
      refine stP.mk (by kernel_rfl) ?_
      rotate_left
      refine dv0 rfl ?_
      exact ⟨rfl, rfl, rfl⟩
end Sx
