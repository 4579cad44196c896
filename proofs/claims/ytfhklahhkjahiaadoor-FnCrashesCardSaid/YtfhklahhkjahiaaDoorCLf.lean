/- Contracts: crashes, and records that are read out. -/
import Derived.Test.YtfhklahhkjahiaaDoorCLe
import Derived.Test.YtfhklahhkjahiaaDoorMxS
set_option linter.all false
namespace Sx
open Go Go.Proofs
set_option maxRecDepth 100000
set_option maxHeartbeats 4000000
set_option linter.unusedSimpArgs false
set_option linter.unusedSectionVars false
variable [Glb]
variable [HasTab]
theorem sCrashLog_c (D P : List UInt8) (n q : Int) (t : Bool) (hD : D.length ≤ 1048576) (hP : P.length ≤ 1048576) : C 23 [lgv D P n, i64 q, bv t] [] (.tuple [.str (crS D P n q t), pr (crOk D P n q)]) [] false := by
  refine mkC false false Tryd.func23 rfl ?_
  refine And.intro nofun ?_
  unfold crS
  by_cases h : crOk D P n q
  · rw [if_pos h]
    obtain ⟨h1, h2, h3⟩ := h
    have hl := h1.1
    obtain ⟨k, rfl⟩ : ∃ k : Nat, q = k := ⟨q.toNat, by omega⟩
    have s1 : List.drop 0 (List.take k P) = P.take k := rfl
    have hk : (P.take k).length = k := by simp; omega
    have hk2 : ((P.take k).map i8).length = k := by simp; omega
    by_cases ht : t = true ∧ 0 < k
    · have ht1 := ht.1
      have hk1 : k - 1 < (P.take k).length := by omega
      have hf := flip_row2 (P.take k) hk1
      have hfl : (flipB (P.take k) (k - 1)).length = k := by simp; omega
      have e : leftB D P (k : Int).toNat t = D ++ flipB (P.take k) (k - 1) := if_pos ht
      rw [e]
      refine Z ?_
      refine callW.mk [] 1 _ _ _ (l12Valid_c _ _ _ (by first | omega | assumption | (simp; omega) | (simp; done)) (by first | omega | assumption | (simp; omega) | (simp; done))) rfl rfl trivial nofun ?_
      refine tN (by first | omega | assumption | exact fun h => h (by assumption) | exact fun h => h rfl | exact fun h => h Iff.rfl) ?_
      refine Z ?_
      refine lenS.mk _ rfl ?_
      refine callW.mk [] 1 _ _ _ (in_c _ _ _) rfl rfl trivial nofun ?_
      refine tN (by first | omega | assumption | exact fun h => h (by assumption) | exact fun h => h rfl | exact fun h => h Iff.rfl) ?_
      refine Z ?_
      refine jk (by omega) ?_
      refine eqS.mk _ s1 ?_
      refine er ?_
      iterate 2 refine tY (by first | omega | assumption | exact rfl | exact Iff.rfl) ?_
      iterate 2 refine nw (by omega) (by omega) ?_
      iterate 2 refine Z ?_
      refine jmm (by omega) (by omega) ?_
      refine gm (by omega) ?_
      refine nr ?_
      iterate 2 refine Z ?_
      refine jmm (by omega) (by omega) ?_
      iterate 2 refine Z ?_
      refine gm (by omega) ?_
      refine Z ?_
      refine er ?_
      iterate 2 refine Z ?_
      refine (bytesP.mk (flipB (P.take k) (k - 1)) hf) ?_
      refine And.intro (by omega) ?_
      refine eqS.mk _ rfl ?_
      rotate_left
      refine doneV.mk [] [] rfl rfl ?_ ?_ ?_
      repeat' first | exact trivial | exact rfl | exact Iff.rfl | assumption | exact pureI | exact (show _ = _ by omega) | exact (show _ ≤ _ by omega) | exact (show _ < _ by omega) | exact (show ¬ _ by omega) | refine And.intro ?_ ?_
      all_goals first | exact rfl | exact ⟨h1, h2, h3⟩
    · have e : leftB D P (k : Int).toNat t = D ++ P.take k := if_neg ht
      rw [e]
      by_cases ht1 : t = true
      · have ht2 : ¬ 0 < (k : Int) := fun h => ht ⟨ht1, by omega⟩
        refine Z ?_
        refine callW.mk [] 1 _ _ _ (l12Valid_c _ _ _ (by first | omega | assumption | (simp; omega) | (simp; done)) (by first | omega | assumption | (simp; omega) | (simp; done))) rfl rfl trivial nofun ?_
        refine tN (by first | omega | assumption | exact fun h => h (by assumption) | exact fun h => h rfl | exact fun h => h Iff.rfl) ?_
        refine Z ?_
        refine lenS.mk _ rfl ?_
        refine callW.mk [] 1 _ _ _ (in_c _ _ _) rfl rfl trivial nofun ?_
        refine tN (by first | omega | assumption | exact fun h => h (by assumption) | exact fun h => h rfl | exact fun h => h Iff.rfl) ?_
        refine Z ?_
        refine jk (by omega) ?_
        refine eqS.mk _ s1 ?_
        refine er ?_
        refine tY (by first | omega | assumption | exact rfl | exact Iff.rfl) ?_
        refine tN (by first | omega | assumption | exact fun h => h (by assumption) | exact fun h => h rfl | exact fun h => h Iff.rfl) ?_
        iterate 2 refine Z ?_
        refine bytesP.mk _ rfl ?_
        refine And.intro (by omega) ?_
        refine eqS.mk _ rfl ?_
        rotate_left
        refine doneV.mk [] [] rfl rfl ?_ ?_ ?_
        repeat' first | exact trivial | exact rfl | exact Iff.rfl | assumption | exact pureI | exact (show _ = _ by omega) | exact (show _ ≤ _ by omega) | exact (show _ < _ by omega) | exact (show ¬ _ by omega) | refine And.intro ?_ ?_
        all_goals first | exact rfl | exact ⟨h1, h2, h3⟩
      · refine Z ?_
        refine callW.mk [] 1 _ _ _ (l12Valid_c _ _ _ (by first | omega | assumption | (simp; omega) | (simp; done)) (by first | omega | assumption | (simp; omega) | (simp; done))) rfl rfl trivial nofun ?_
        refine tN (by first | omega | assumption | exact fun h => h (by assumption) | exact fun h => h rfl | exact fun h => h Iff.rfl) ?_
        refine Z ?_
        refine lenS.mk _ rfl ?_
        refine callW.mk [] 1 _ _ _ (in_c _ _ _) rfl rfl trivial nofun ?_
        refine tN (by first | omega | assumption | exact fun h => h (by assumption) | exact fun h => h rfl | exact fun h => h Iff.rfl) ?_
        refine Z ?_
        refine jk (by omega) ?_
        refine eqS.mk _ s1 ?_
        refine er ?_
        refine tN (by first | omega | assumption | exact fun h => h (by assumption) | exact fun h => h rfl | exact fun h => h Iff.rfl) ?_
        iterate 2 refine Z ?_
        refine bytesP.mk _ rfl ?_
        refine And.intro (by omega) ?_
        refine eqS.mk _ rfl ?_
        rotate_left
        refine doneV.mk [] [] rfl rfl ?_ ?_ ?_
        repeat' first | exact trivial | exact rfl | exact Iff.rfl | assumption | exact pureI | exact (show _ = _ by omega) | exact (show _ ≤ _ by omega) | exact (show _ < _ by omega) | exact (show ¬ _ by omega) | refine And.intro ?_ ?_
        all_goals first | exact rfl | exact ⟨h1, h2, h3⟩
  · rw [if_neg h]
    by_cases h1 : logOk D P n
    · have h2 : ¬ (0 ≤ q ∧ q ≤ P.length) := fun h3 => h ⟨h1, h3⟩
      refine Z ?_
      refine callW.mk [] 1 _ _ _ (l12Valid_c _ _ _ (by first | omega | assumption | (simp; omega) | (simp; done)) (by first | omega | assumption | (simp; omega) | (simp; done))) rfl rfl trivial nofun ?_
      refine tN (by first | omega | assumption | exact fun h => h (by assumption) | exact fun h => h rfl | exact fun h => h Iff.rfl) ?_
      refine Z ?_
      refine lenS.mk _ rfl ?_
      refine callW.mk [] 1 _ _ _ (in_c _ _ _) rfl rfl trivial nofun ?_
      refine tY (by first | omega | assumption | exact rfl | exact Iff.rfl) ?_
      rotate_left
      refine doneV.mk [] [] rfl rfl ?_ ?_ ?_
      repeat' first | exact trivial | exact rfl | exact Iff.rfl | assumption | exact pureI | exact (show _ = _ by omega) | exact (show _ ≤ _ by omega) | exact (show _ < _ by omega) | exact (show ¬ _ by omega) | refine And.intro ?_ ?_
      all_goals first | exact rfl | exact h
    · refine Z ?_
      refine callW.mk [] 1 _ _ _ (l12Valid_c _ _ _ (by first | omega | assumption | (simp; omega) | (simp; done)) (by first | omega | assumption | (simp; omega) | (simp; done))) rfl rfl trivial nofun ?_
      refine tY (by first | omega | assumption | exact rfl | exact Iff.rfl) ?_
      rotate_left
      refine doneV.mk [] [] rfl rfl ?_ ?_ ?_
      repeat' first | exact trivial | exact rfl | exact Iff.rfl | assumption | exact pureI | exact (show _ = _ by omega) | exact (show _ ≤ _ by omega) | exact (show _ < _ by omega) | exact (show ¬ _ by omega) | refine And.intro ?_ ?_
      all_goals first | exact rfl | exact h
theorem CrashLog_c (D P : List UInt8) (n q : Int) (t : Bool) (hD : D.length ≤ 1048576) (hP : P.length ≤ 1048576) : C 24 [lgv D P n, i64 q, bv t] [] (.tuple [.str (crS D P n q t), pr (crOk D P n q)]) [] false := by
  refine mkC false false Tryd.func24 rfl ?_
  refine And.intro nofun ?_
  unfold crS
  by_cases h : crOk D P n q
  · rw [if_pos h]
    obtain ⟨h1, h2, h3⟩ := h
    have hl := h1.1
    obtain ⟨k, rfl⟩ : ∃ k : Nat, q = k := ⟨q.toNat, by omega⟩
    have s1 : List.drop 0 (List.take k P) = P.take k := rfl
    have s2 : D ++ P.take k = D ++ P.take k := rfl
    have hk : (P.take k).length = k := by simp; omega
    have hk2 : (D ++ P.take k).length = D.length + k := by simp; omega
    have hk3 : ((D ++ P.take k).map i8).length = D.length + k := by simp; omega
    by_cases ht : t = true ∧ 0 < k
    · have ht1 := ht.1
      have hk1 : D.length + k - 1 < (D ++ P.take k).length := by omega
      have hf := flip_row2 (D ++ P.take k) hk1
      have e : leftB D P (k : Int).toNat t = D ++ flipB (P.take k) (k - 1) := if_pos ht
      have e2 : flipB (D ++ P.take k) (D.length + k - 1) = D ++ flipB (P.take k) (k - 1) := by
        have := flip_app (D := D) (b := P.take k) (by omega)
        rwa [hk2, hk] at this
      rw [e2] at hf
      rw [e]
      refine Z ?_
      refine callW.mk [] 1 _ _ _ (IsValidLog_c _ _ _ (by first | omega | assumption | (simp; omega) | (simp; done)) (by first | omega | assumption | (simp; omega) | (simp; done))) rfl rfl trivial nofun ?_
      refine tN (by first | omega | assumption | exact fun h => h (by assumption) | exact fun h => h rfl | exact fun h => h Iff.rfl) ?_
      refine Z ?_
      refine lenS.mk _ rfl ?_
      refine callW.mk [] 1 _ _ _ (within_c _ _ _) rfl rfl trivial nofun ?_
      refine tN (by first | omega | assumption | exact fun h => h (by assumption) | exact fun h => h rfl | exact fun h => h Iff.rfl) ?_
      refine drawP.mkT 7 (Z (Z (Z (Z ?_))))
      apply exP.mk
      refine Z ?_
      exact rfl
      apply exP.mk
      exact rfl
      apply exP.mk
      refine Z ?_
      exact rfl
      apply exP.mk
      exact rfl
      apply exP.mk
      exact rfl
      apply exP.mk
      refine jk (by omega) ?_
      refine eqS.mk _ s1 ?_
      exact rfl
      apply exP.mk
      refine And.intro (by omega) ?_
      refine eqS.mk _ s2 ?_
      exact rfl
      refine And.intro (by repeat' first | exact rfl | refine And.intro ?_ ?_) ?_
      refine er ?_
      iterate 2 refine tY (by first | omega | assumption | exact rfl | exact Iff.rfl) ?_
      refine (lenP.mk (D.length + k) hk3) ?_
      refine nw (by omega) (by omega) ?_
      refine (lenP.mk (D.length + k) hk3) ?_
      refine nw (by omega) (by omega) ?_
      iterate 2 refine Z ?_
      refine jmm (by omega) (by omega) ?_
      refine gm (by omega) ?_
      refine nr ?_
      iterate 2 refine Z ?_
      refine jmm (by omega) (by omega) ?_
      iterate 2 refine Z ?_
      refine gm (by omega) ?_
      refine Z ?_
      refine er ?_
      refine Z ?_
      refine (bytesP.mk (D ++ flipB (P.take k) (k - 1)) hf) ?_
      rotate_left
      refine doneV.mk [] [] rfl rfl ?_ ?_ ?_
      repeat' first | exact trivial | exact rfl | exact Iff.rfl | assumption | exact pureI | exact (show _ = _ by omega) | exact (show _ ≤ _ by omega) | exact (show _ < _ by omega) | exact (show ¬ _ by omega) | refine And.intro ?_ ?_
      all_goals first | exact rfl | exact ⟨h1, h2, h3⟩
    · have e : leftB D P (k : Int).toNat t = D ++ P.take k := if_neg ht
      rw [e]
      by_cases ht1 : t = true
      · have ht2 : ¬ 0 < (k : Int) := fun h => ht ⟨ht1, by omega⟩
        refine Z ?_
        refine callW.mk [] 1 _ _ _ (IsValidLog_c _ _ _ (by first | omega | assumption | (simp; omega) | (simp; done)) (by first | omega | assumption | (simp; omega) | (simp; done))) rfl rfl trivial nofun ?_
        refine tN (by first | omega | assumption | exact fun h => h (by assumption) | exact fun h => h rfl | exact fun h => h Iff.rfl) ?_
        refine Z ?_
        refine lenS.mk _ rfl ?_
        refine callW.mk [] 1 _ _ _ (within_c _ _ _) rfl rfl trivial nofun ?_
        refine tN (by first | omega | assumption | exact fun h => h (by assumption) | exact fun h => h rfl | exact fun h => h Iff.rfl) ?_
        refine drawP.mkT 7 (Z (Z (Z (Z ?_))))
        apply exP.mk
        refine Z ?_
        exact rfl
        apply exP.mk
        exact rfl
        apply exP.mk
        refine Z ?_
        exact rfl
        apply exP.mk
        exact rfl
        apply exP.mk
        exact rfl
        apply exP.mk
        refine jk (by omega) ?_
        refine eqS.mk _ s1 ?_
        exact rfl
        apply exP.mk
        refine And.intro (by omega) ?_
        refine eqS.mk _ s2 ?_
        exact rfl
        refine And.intro (by repeat' first | exact rfl | refine And.intro ?_ ?_) ?_
        refine er ?_
        refine tY (by first | omega | assumption | exact rfl | exact Iff.rfl) ?_
        refine tN (by first | omega | assumption | exact fun h => h (by assumption) | exact fun h => h rfl | exact fun h => h Iff.rfl) ?_
        refine Z ?_
        refine bytesP.mk _ rfl ?_
        rotate_left
        refine doneV.mk [] [] rfl rfl ?_ ?_ ?_
        repeat' first | exact trivial | exact rfl | exact Iff.rfl | assumption | exact pureI | exact (show _ = _ by omega) | exact (show _ ≤ _ by omega) | exact (show _ < _ by omega) | exact (show ¬ _ by omega) | refine And.intro ?_ ?_
        all_goals first | exact rfl | exact ⟨h1, h2, h3⟩
      · refine Z ?_
        refine callW.mk [] 1 _ _ _ (IsValidLog_c _ _ _ (by first | omega | assumption | (simp; omega) | (simp; done)) (by first | omega | assumption | (simp; omega) | (simp; done))) rfl rfl trivial nofun ?_
        refine tN (by first | omega | assumption | exact fun h => h (by assumption) | exact fun h => h rfl | exact fun h => h Iff.rfl) ?_
        refine Z ?_
        refine lenS.mk _ rfl ?_
        refine callW.mk [] 1 _ _ _ (within_c _ _ _) rfl rfl trivial nofun ?_
        refine tN (by first | omega | assumption | exact fun h => h (by assumption) | exact fun h => h rfl | exact fun h => h Iff.rfl) ?_
        refine drawP.mkT 7 (Z (Z (Z (Z ?_))))
        apply exP.mk
        refine Z ?_
        exact rfl
        apply exP.mk
        exact rfl
        apply exP.mk
        refine Z ?_
        exact rfl
        apply exP.mk
        exact rfl
        apply exP.mk
        exact rfl
        apply exP.mk
        refine jk (by omega) ?_
        refine eqS.mk _ s1 ?_
        exact rfl
        apply exP.mk
        refine And.intro (by omega) ?_
        refine eqS.mk _ s2 ?_
        exact rfl
        refine And.intro (by repeat' first | exact rfl | refine And.intro ?_ ?_) ?_
        refine er ?_
        refine tN (by first | omega | assumption | exact fun h => h (by assumption) | exact fun h => h rfl | exact fun h => h Iff.rfl) ?_
        refine Z ?_
        refine bytesP.mk _ rfl ?_
        rotate_left
        refine doneV.mk [] [] rfl rfl ?_ ?_ ?_
        repeat' first | exact trivial | exact rfl | exact Iff.rfl | assumption | exact pureI | exact (show _ = _ by omega) | exact (show _ ≤ _ by omega) | exact (show _ < _ by omega) | exact (show ¬ _ by omega) | refine And.intro ?_ ?_
        all_goals first | exact rfl | exact ⟨h1, h2, h3⟩
  · rw [if_neg h]
    by_cases h1 : logOk D P n
    · have h2 : ¬ (0 ≤ q ∧ q ≤ P.length) := fun h3 => h ⟨h1, h3⟩
      refine Z ?_
      refine callW.mk [] 1 _ _ _ (IsValidLog_c _ _ _ (by first | omega | assumption | (simp; omega) | (simp; done)) (by first | omega | assumption | (simp; omega) | (simp; done))) rfl rfl trivial nofun ?_
      refine tN (by first | omega | assumption | exact fun h => h (by assumption) | exact fun h => h rfl | exact fun h => h Iff.rfl) ?_
      refine Z ?_
      refine lenS.mk _ rfl ?_
      refine callW.mk [] 1 _ _ _ (within_c _ _ _) rfl rfl trivial nofun ?_
      refine tY (by first | omega | assumption | exact rfl | exact Iff.rfl) ?_
      rotate_left
      refine doneV.mk [] [] rfl rfl ?_ ?_ ?_
      repeat' first | exact trivial | exact rfl | exact Iff.rfl | assumption | exact pureI | exact (show _ = _ by omega) | exact (show _ ≤ _ by omega) | exact (show _ < _ by omega) | exact (show ¬ _ by omega) | refine And.intro ?_ ?_
      all_goals first | exact rfl | exact h
    · refine Z ?_
      refine callW.mk [] 1 _ _ _ (IsValidLog_c _ _ _ (by first | omega | assumption | (simp; omega) | (simp; done)) (by first | omega | assumption | (simp; omega) | (simp; done))) rfl rfl trivial nofun ?_
      refine tY (by first | omega | assumption | exact rfl | exact Iff.rfl) ?_
      rotate_left
      refine doneV.mk [] [] rfl rfl ?_ ?_ ?_
      repeat' first | exact trivial | exact rfl | exact Iff.rfl | assumption | exact pureI | exact (show _ = _ by omega) | exact (show _ ≤ _ by omega) | exact (show _ < _ by omega) | exact (show ¬ _ by omega) | refine And.intro ?_ ?_
      all_goals first | exact rfl | exact h
theorem FnExactCrashLog_c (D P : List UInt8) (n q : Int) (t : Bool) (hD : fitS D) (hP : fitS P) : C 6 [lgv D P n, i64 q, bv t] [] .tt [] false := by
  refine mkC false false Tryd.func6 rfl ?_
  refine And.intro nofun ?_
  by_cases hk : 1048576 < (D.length : Int) + (P.length : Int)
  · have hs := szLog_c D P n hD hP _ rfl
    rw [if_pos hk] at hs
    refine Z ?_
    refine callW.mk [] 1 _ _ _ (hs) rfl rfl (by repeat' first | exact trivial | assumption | exact knownSS | exact knownApp knownSS knownNil | refine And.intro ?_ ?_) nofun ?_
    refine tY (by first | omega | assumption | exact rfl | exact Iff.rfl) ?_
    rotate_left
    refine doneV.mk [] [] rfl rfl ?_ ?_ ?_
    repeat' first | exact trivial | exact rfl | exact Iff.rfl | assumption | exact pureI | exact (show _ = _ by omega) | exact (show _ ≤ _ by omega) | exact (show _ < _ by omega) | exact (show ¬ _ by omega) | refine And.intro ?_ ?_
  · have hs := szLog_c D P n hD hP _ rfl
    rw [if_neg hk] at hs
    have h1 : D.length ≤ 1048576 := by omega
    have h2 : P.length ≤ 1048576 := by omega
    refine Z ?_
    refine callW.mk [] 1 _ _ _ (hs) rfl rfl (by repeat' first | exact trivial | assumption | exact knownSS | exact knownApp knownSS knownNil | refine And.intro ?_ ?_) nofun ?_
    refine tN (by first | omega | assumption | exact fun h => h (by assumption) | exact fun h => h rfl | exact fun h => h Iff.rfl) ?_
    refine callW.mk [] 1 _ _ _ (toLog_c _ _ _) rfl rfl trivial nofun ?_
    refine callW.mk [] 1 _ _ _ ((sCrashLog_c D P n q t h1 h2)) rfl rfl (by repeat' first | exact trivial | assumption | exact knownSS | exact knownApp knownSS knownNil | refine And.intro ?_ ?_) nofun ?_
    refine callW.mk [] 1 _ _ _ (toLog_c _ _ _) rfl rfl trivial nofun ?_
    refine callW.mk [] 1 _ _ _ ((CrashLog_c D P n q t h1 h2)) rfl rfl (by repeat' first | exact trivial | assumption | exact knownSS | exact knownApp knownSS knownNil | refine And.intro ?_ ?_) nofun ?_
    iterate 2 refine tN (by first | omega | assumption | exact fun h => h (by assumption) | exact fun h => h rfl | exact fun h => h Iff.rfl) ?_
    rotate_left
    refine doneV.mk [] [] rfl rfl ?_ ?_ ?_
    repeat' first | exact trivial | exact rfl | exact Iff.rfl | assumption | exact pureI | exact (show _ = _ by omega) | exact (show _ ≤ _ by omega) | exact (show _ < _ by omega) | exact (show ¬ _ by omega) | refine And.intro ?_ ?_
theorem markText_c (k : Int) (hk : k ≤ 4611686018427387903) : C 56 [i64 k] [] (.str (mkT k)) [] false := by
  refine mkC false false Tryd.func56 rfl ?_
  refine And.intro nofun ?_
  by_cases h0 : k ≤ 0
  · rw [mkT_no h0]
    refine tY (by first | omega | assumption | exact rfl | exact Iff.rfl) ?_
    rotate_left
    refine doneV.mk [] [] rfl rfl ?_ ?_ ?_
    repeat' first | exact trivial | exact rfl | exact Iff.rfl | assumption | exact pureI | exact (show _ = _ by omega) | exact (show _ ≤ _ by omega) | exact (show _ < _ by omega) | exact (show ¬ _ by omega) | refine And.intro ?_ ?_
  · rw [mkT_yes h0]
    have hlen := itoa_len (n := k) (by omega) (d := 18) (by omega)
    refine tN (by first | omega | assumption | exact fun h => h (by assumption) | exact fun h => h rfl | exact fun h => h Iff.rfl) ?_
    rotate_left
    refine loop_up (β := (Int × List UInt8)) (fun (m, o) => [(0, i64 m), (3, .str o)]) (fun (m, o) => []) [] (fun (m, o) => 0 ≤ m ∧ m ≤ k ∧ tailT2 m o k) (fun (m, o) => m.toNat) ((k, [])) ?_ ?_ ?_
    · exact ⟨by omega, by omega, tailT2_start (by omega)⟩
    · refine weak.mk [] [] rfl rfl ?_ ?_
      repeat' first | exact trivial | exact rfl | exact Iff.rfl | assumption | refine And.intro ?_ ?_
    · rintro ⟨m, o⟩ ⟨hm0, hmk, ht⟩ R hR
      have hm0 : 0 ≤ m := hm0
      have hmk : m ≤ k := hmk
      have hol : o.length ≤ 19 := by have := tailT2_len ht; omega
      refine twoP.mk (fun _ => ?_) (fun _ => ?_)
      refine And.intro (by omega) ?_
      refine ntm (by omega) ?_
      refine nw (by omega) (by omega) ?_
      refine nr ?_
      iterate 6 refine Z ?_
      refine (bytesP.mk [UInt8.ofNat (48 + (m % 10).toNat)] (dig_row2 hm0)) ?_
      refine And.intro (by simp; omega) ?_
      refine eqS.mk _ rfl ?_
      refine And.intro (by omega) ?_
      refine ntd (by omega) (by omega) (by omega) ?_
      rotate_left
      refine And.intro (by simp; omega) ?_
      refine eqS.mk _ rfl ?_
      rotate_left
      · rename_i h1
        refine hR ((m / 10, [UInt8.ofNat (48 + (m % 10).toNat)] ++ o)) _ _ ?_ ?_
        rotate_left
        refine weak.mk [] [] rfl rfl ?_ ?_
        repeat' first | exact trivial | exact rfl | exact Iff.rfl | assumption | exact pureI | exact (show _ = _ by omega) | exact (show _ ≤ _ by omega) | exact (show _ < _ by omega) | exact (show ¬ _ by omega) | refine And.intro ?_ ?_
        rotate_right
        all_goals first | exact rfl | exact ⟨⟨by omega, by omega, tailT2_step h1 ht⟩, (show (m / 10).toNat < m.toNat by omega)⟩
      · rename_i h1
        rw [tailT2_end h1 ht]
        refine doneV.mk [] [] rfl rfl ?_ ?_ ?_
        repeat' first | exact trivial | exact rfl | exact Iff.rfl | assumption | exact pureI | exact (show _ = _ by omega) | exact (show _ ≤ _ by omega) | exact (show _ < _ by omega) | exact (show ¬ _ by omega) | refine And.intro ?_ ?_
end Sx
