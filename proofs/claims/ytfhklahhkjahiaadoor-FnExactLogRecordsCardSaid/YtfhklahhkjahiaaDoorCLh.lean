/- Contracts: the law of records that are read out. -/
import Derived.Test.YtfhklahhkjahiaaDoorCLf
import Derived.Test.YtfhklahhkjahiaaDoorCa
set_option linter.all false
namespace Sx
open Go Go.Proofs
set_option maxRecDepth 100000
set_option maxHeartbeats 8000000
set_option linter.unusedSimpArgs false
set_option linter.unusedSectionVars false
variable [Glb]
variable [HasTab]
theorem eqLogRecord_c (a b : List UInt8 × List UInt8) : C 55 [rcv a, rcv b] [] (pr (a = b)) [] false := by
  refine mkC false false Tryd.func55 rfl ?_
  refine And.intro nofun ?_
  iterate 4 refine Z ?_
  refine twoN (fun _ => ?_) (fun _ => ?_)
  rotate_left
  iterate 2 refine Z ?_
  refine twoN (fun _ => ?_) (fun _ => ?_)
  iterate 2 rotate_left
  · rename_i h1
    refine dv0 rfl ?_
    exact fun h => h1 (by rw [h])
  · rename_i h1 h2
    refine dv0 rfl ?_
    exact fun h => h2 (by rw [h])
  · rename_i h1 h2
    refine dv0 rfl ?_
    exact Prod.ext h1 h2
theorem eqLogRecordS_c (a b : List (List UInt8 × List UInt8)) (hl : a.length ≤ 1099511627776) (hb : b.length ≤ 1099511627776) : C 31 [.sl 2 (a.map rcv), .sl 2 (b.map rcv)] [] (pr (a = b)) [] false := by
  refine mkC false false Tryd.func31 rfl ?_
  refine And.intro nofun ?_
  iterate 2 refine lm ?_
  refine twoN (fun _ => ?_) (fun _ => ?_)
  iterate 2 rotate_left
  · rename_i h1
    refine dv0 rfl ?_
    exact fun h => h1 (by rw [h])
  · rename_i h1
    refine loop_up (β := Nat) (fun k => [(5, i64 k), (4, .unk)]) (fun k => []) [] (fun k => k ≤ a.length ∧ a.take k = b.take k) (fun k => a.length - k) (0) ?_ ?_ ?_
    · simp
    · refine weak.mk [] [] rfl rfl ?_ ?_
      repeat' first | exact trivial | exact rfl | exact Iff.rfl | assumption | refine And.intro ?_ ?_
    · rintro k ⟨hk, hi⟩ R hR
      by_cases hkl : k < a.length
      · refine lm ?_
        refine tY (by first | omega | assumption | exact rfl | exact Iff.rfl) ?_
        refine drawP.mk 10 (Z (Z (Z (Z ?_))))
        apply exP.mk
        exact rfl
        apply exP.mk
        exact rfl
        apply exP.mk
        iterate 2 refine Z ?_
        refine jkm (by omega) ?_
        exact rfl
        apply exP.mk
        refine gm (by omega) ?_
        exact rfl
        apply exP.mk
        exact rfl
        apply exP.mk
        exact rfl
        apply exP.mk
        iterate 2 refine Z ?_
        refine jkm (by omega) ?_
        exact rfl
        apply exP.mk
        refine gm (by omega) ?_
        exact rfl
        apply exP.mk
        refine callP.mk _ _ _ ((eqLogRecord_c a[k] (b[k]'(by omega)))) (by repeat' first | exact trivial | assumption | exact knownSS | exact knownApp knownSS knownNil | refine And.intro ?_ ?_) nofun trivial ?_
        exact rfl
        apply exP.mk
        exact rfl
        refine twoN (fun _ => ?_) (fun _ => ?_)
        rotate_left
        refine nw (by omega) (by omega) ?_
        rotate_left
        · rename_i h3
          refine dv0 rfl ?_
          exact fun h => h3 (by subst h; rfl)
        · rename_i h3
          refine hR (k + 1) _ _ ?_ (weak.mk [] [] rfl rfl ?_ ?_)
          repeat' first | exact trivial | exact rfl | exact Iff.rfl | assumption | refine And.intro ?_ ?_
          exact ⟨⟨by omega, (eq_take (by omega) (by omega)).2 ⟨hi, h3⟩⟩, by omega⟩
      · refine lm ?_
        refine tN (by first | omega | assumption | exact fun h => h (by assumption) | exact fun h => h rfl | exact fun h => h Iff.rfl) ?_
        rotate_left
        rw [List.take_of_length_le (by omega), List.take_of_length_le (by omega)] at hi
        refine dv0 rfl ?_
        exact hi
theorem markLogRecordS_c (l : List (List UInt8 × List UInt8)) (hl : l.length ≤ 1099511627776) (k : Int) (h0 : 0 ≤ k) (hk : k ≤ 1099511627776) : C 32 [.loc 0, i64 k] [rowE l] (i64 (k + 2 * l.length)) [rowE (marksT k l.length)] false := by
  refine mkC false false Tryd.func32 rfl ?_
  refine And.intro nofun ?_
  rotate_left
  refine loop_up (β := Nat) (fun j => [(5, i64 j), (1, i64 (k + 2 * j))]) (fun j => [(0, rowE (marksT k j ++ l.drop j))]) [] (fun j => j ≤ l.length) (fun j => l.length - j) (0) ?_ ?_ ?_
  · omega
  · refine weak.mk [] [0] rfl rfl ?_ ?_
    repeat' first | exact trivial | exact rfl | exact Iff.rfl | assumption | refine And.intro ?_ ?_
    omega
  · rintro j hj R hR
    have hm : (marksT k j ++ l.drop j).length = l.length := by simp; omega
    by_cases hjl : j < l.length
    · refine lm ?_
      refine tY (by first | omega | assumption | exact rfl | exact Iff.rfl) ?_
      refine callW.mk [] 1 _ _ _ (markText_c _ (by first | omega | assumption | (simp; omega) | (simp; done))) rfl rfl trivial nofun ?_
      iterate 2 refine Z ?_
      refine jkm (by omega) ?_
      iterate 3 refine Z ?_
      refine gm (by omega) ?_
      refine Z ?_
      refine esetR ?_
      refine nw (by omega) (by omega) ?_
      refine callW.mk [] 1 _ _ _ (markText_c _ (by first | omega | assumption | (simp; omega) | (simp; done))) rfl rfl trivial nofun ?_
      iterate 2 refine Z ?_
      refine jkm (by simp; omega) ?_
      iterate 3 refine Z ?_
      refine gm (by simp; omega) ?_
      refine Z ?_
      refine esetR ?_
      iterate 2 refine nw (by omega) (by omega) ?_
      rotate_left
      refine hR (j + 1) _ _ ?_ (weak.mk [] [0] rfl rfl ?_ ?_)
      repeat' first | exact trivial | exact rfl | exact Iff.rfl | assumption | refine And.intro ?_ ?_
      · exact ⟨by omega, by omega⟩
      · omega
      · refine map_congr ?_
        rw [List.set_set, set_at (marksT_len k j) hjl, marksT_succ]
        simp
    · refine lm ?_
      refine tN (by first | omega | assumption | exact fun h => h (by assumption) | exact fun h => h rfl | exact fun h => h Iff.rfl) ?_
      rotate_left
      have e : j = l.length := by omega
      subst e
      refine doneV.mk [] [0] rfl rfl ?_ ?_ ?_
      repeat' first | exact trivial | exact rfl | exact Iff.rfl | assumption | exact pureI | refine And.intro ?_ ?_
      · rw [List.drop_length, List.append_nil]
      · exact pureRec
theorem heldLogRecordS_c (n : Nat) (hl : n ≤ 1099511627776) (k : Int) (h0 : 0 ≤ k) (hk : k ≤ 1099511627776) : C 33 [.sl 2 ((marksT k n).map rcv), i64 k] [] (i64 (k + 2 * n)) [] false := by
  refine mkC false false Tryd.func33 rfl ?_
  refine And.intro nofun ?_
  have hm := marksT_len k n
  rotate_left
  refine loop_up (β := Nat) (fun j => [(5, i64 j), (1, i64 (k + 2 * j)), (4, .unk)]) (fun j => []) [] (fun j => j ≤ n) (fun j => n - j) (0) ?_ ?_ ?_
  · omega
  · refine weak.mk [] [] rfl rfl ?_ ?_
    repeat' first | exact trivial | exact rfl | exact Iff.rfl | assumption | refine And.intro ?_ ?_
    omega
  · rintro j hj R hR
    have hg : ∀ h : j < (marksT k n).length, (marksT k n)[j].1 = mkT (k + 2 * j) ∧ (marksT k n)[j].2 = mkT (k + 2 * j + 1) := fun h => by rw [marksT_get h]; exact ⟨rfl, rfl⟩
    by_cases hjl : j < (marksT k n).length
    · obtain ⟨g1, g2⟩ := hg hjl
      refine lm ?_
      refine tY (by first | omega | assumption | exact rfl | exact Iff.rfl) ?_
      refine drawP.mk 8 (Z (Z (Z (Z ?_))))
      apply exP.mk
      exact rfl
      apply exP.mk
      exact rfl
      apply exP.mk
      iterate 2 refine Z ?_
      refine jkm (by omega) ?_
      exact rfl
      apply exP.mk
      refine Z ?_
      exact rfl
      apply exP.mk
      refine gm (by omega) ?_
      exact rfl
      apply exP.mk
      exact rfl
      apply exP.mk
      refine callP.mk _ _ _ (markText_c _ (by first | omega | assumption | (simp; omega) | (simp; done))) trivial nofun trivial ?_
      exact rfl
      apply exP.mk
      exact rfl
      refine tN (by first | omega | assumption | exact fun h => h (by assumption) | exact fun h => h rfl | exact fun h => h Iff.rfl) ?_
      refine nw (by omega) (by omega) ?_
      refine drawP.mk 8 (Z (Z (Z (Z ?_))))
      apply exP.mk
      exact rfl
      apply exP.mk
      exact rfl
      apply exP.mk
      iterate 2 refine Z ?_
      refine jkm (by omega) ?_
      exact rfl
      apply exP.mk
      refine Z ?_
      exact rfl
      apply exP.mk
      refine gm (by omega) ?_
      exact rfl
      apply exP.mk
      exact rfl
      apply exP.mk
      refine callP.mk _ _ _ (markText_c _ (by first | omega | assumption | (simp; omega) | (simp; done))) trivial nofun trivial ?_
      exact rfl
      apply exP.mk
      exact rfl
      refine tN (by first | omega | assumption | exact fun h => h (by assumption) | exact fun h => h rfl | exact fun h => h Iff.rfl) ?_
      iterate 2 refine nw (by omega) (by omega) ?_
      rotate_left
      refine hR (j + 1) _ _ ?_ (weak.mk [] [] rfl rfl ?_ ?_)
      repeat' first | exact trivial | exact rfl | exact Iff.rfl | assumption | refine And.intro ?_ ?_
      · exact ⟨by omega, by omega⟩
      · omega
    · refine lm ?_
      refine tN (by first | omega | assumption | exact fun h => h (by assumption) | exact fun h => h rfl | exact fun h => h Iff.rfl) ?_
      rotate_left
      have e : j = n := by omega
      subst e
      refine dv0 rfl ?_
      exact ⟨rfl, rfl⟩
theorem FnExactLogRecords_c (D P : List UInt8) (n : Int) (hD : fitS D) (hP : fitS P) : C 9 [lgv D P n] [] .tt [] false := by
  refine mkC false false Tryd.func9 rfl ?_
  refine And.intro nofun ?_
  by_cases hk : 1048576 < (D.length : Int) + (P.length : Int)
  · have hs := szLog_c D P n hD hP _ rfl
    rw [if_pos hk] at hs
    refine Z ?_
    refine callW.mk [] 1 _ _ _ (hs) rfl rfl (by repeat' first | exact trivial | assumption | exact knownSS | exact knownApp knownSS knownNil | refine And.intro ?_ ?_) nofun ?_
    refine tY (by first | omega | assumption | exact rfl | exact Iff.rfl) ?_
    rotate_left
    refine doneV.mk [] [] rfl rfl ?_ ?_ ?_
    repeat' first | exact trivial | exact rfl | exact Iff.rfl | assumption | exact pureI | exact (show _ = _ by omega) | exact (show _ ≤ _ by omega) | exact (show _ < _ by omega) | exact (show ¬ _ by omega) | refine And.intro ?_ ?_
  · have hs := szLog_c D P n hD hP _ rfl
    rw [if_neg hk] at hs
    have h1 : D.length ≤ 1048576 := by omega
    have h2 : P.length ≤ 1048576 := by omega
    have hA := LogRecords_c D P n h1 h2
    have hB := sLogRecords_c D P n h1 h2
    have hlen : (if logOk D P n then recsB (D ++ P) else []).length ≤ 60 := by
      split
      · have := (cnt_spec (D ++ P)).1
        simp [recsB]
        exact this
      · simp
    generalize (if logOk D P n then recsB (D ++ P) else []) = L at hA hB hlen
    refine Z ?_
    refine callW.mk [] 1 _ _ _ (hs) rfl rfl (by repeat' first | exact trivial | assumption | exact knownSS | exact knownApp knownSS knownNil | refine And.intro ?_ ?_) nofun ?_
    refine tN (by first | omega | assumption | exact fun h => h (by assumption) | exact fun h => h rfl | exact fun h => h Iff.rfl) ?_
    refine callW.mk [] 1 _ _ _ (toLog_c _ _ _) rfl rfl trivial nofun ?_
    refine callW.mk [] 1 _ _ _ (hB) rfl rfl (by repeat' first | exact trivial | assumption | exact knownSS | exact knownApp knownSS knownNil | refine And.intro ?_ ?_) nofun ?_
    refine callW.mk [] 2 _ _ _ (toLog_c _ _ _) rfl rfl trivial nofun ?_
    refine callW.mk [] 2 _ _ _ (hA) rfl rfl (by repeat' first | exact trivial | assumption | exact knownSS | exact knownApp knownSS knownNil | refine And.intro ?_ ?_) nofun ?_
    refine callW.mk [] 3 _ _ _ (eqLogRecordS_c _ _ (by first | omega | assumption | (simp; omega) | (simp; done)) (by first | omega | assumption | (simp; omega) | (simp; done))) rfl rfl trivial nofun ?_
    iterate 2 refine tN (by first | omega | assumption | exact fun h => h (by assumption) | exact fun h => h rfl | exact fun h => h Iff.rfl) ?_
    refine callW.mk [2] 3 _ _ _ (markLogRecordS_c _ (by first | omega | assumption | (simp; omega) | (simp; done)) _ (by first | omega | assumption | (simp; omega) | (simp; done)) (by first | omega | assumption | (simp; omega) | (simp; done))) rfl rfl trivial nofun ?_
    refine callW.mk [] 3 _ _ _ (heldLogRecordS_c _ (by first | omega | assumption | (simp; omega) | (simp; done)) _ (by first | omega | assumption | (simp; omega) | (simp; done)) (by first | omega | assumption | (simp; omega) | (simp; done))) rfl rfl trivial nofun ?_
    iterate 2 refine tN (by first | omega | assumption | exact fun h => h (by assumption) | exact fun h => h rfl | exact fun h => h Iff.rfl) ?_
    refine callW.mk [] 3 _ _ _ (toLog_c _ _ _) rfl rfl trivial nofun ?_
    refine callW.mk [] 3 _ _ _ (hA) rfl rfl (by repeat' first | exact trivial | assumption | exact knownSS | exact knownApp knownSS knownNil | refine And.intro ?_ ?_) nofun ?_
    refine callW.mk [] 4 _ _ _ (eqLogRecordS_c _ _ (by first | omega | assumption | (simp; omega) | (simp; done)) (by first | omega | assumption | (simp; omega) | (simp; done))) rfl rfl trivial nofun ?_
    iterate 2 refine tN (by first | omega | assumption | exact fun h => h (by assumption) | exact fun h => h rfl | exact fun h => h Iff.rfl) ?_
    refine callW.mk [] 4 _ _ _ (heldLogRecordS_c _ (by first | omega | assumption | (simp; omega) | (simp; done)) _ (by first | omega | assumption | (simp; omega) | (simp; done)) (by first | omega | assumption | (simp; omega) | (simp; done))) rfl rfl trivial nofun ?_
    iterate 2 refine tN (by first | omega | assumption | exact fun h => h (by assumption) | exact fun h => h rfl | exact fun h => h Iff.rfl) ?_
    rotate_left
    refine doneV.mk [] [] rfl rfl ?_ ?_ ?_
    repeat' first | exact trivial | exact rfl | exact Iff.rfl | assumption | exact pureI | exact (show _ = _ by omega) | exact (show _ ≤ _ by omega) | exact (show _ < _ by omega) | exact (show ¬ _ by omega) | refine And.intro ?_ ?_
end Sx
