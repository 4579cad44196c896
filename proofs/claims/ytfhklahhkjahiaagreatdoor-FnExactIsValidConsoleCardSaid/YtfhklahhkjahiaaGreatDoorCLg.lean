/- Contracts: valid consoles, and their law. -/
import Derived.Test.YtfhklahhkjahiaaGreatDoorCLe
import Derived.Test.YtfhklahhkjahiaaGreatDoorMxS
import Derived.Test.YtfhklahhkjahiaaGreatDoorCf
set_option linter.all false
namespace Sx
open Go Go.Proofs
set_option maxRecDepth 100000
set_option maxHeartbeats 4000000
set_option linter.unusedSimpArgs false
set_option linter.unusedSectionVars false
variable [Glb]
variable [HasTab]
theorem szLog2_c (c r : List UInt8) (n : Int) (hc : fitS c) (hr : fitS r) (l : Int) (hl : 0 ≤ l ∧ l ≤ 1048576) : C 10 [lgv c r n, i64 l] [] (i64 (if l < (c.length : Int) + (r.length : Int) then -1 else l - c.length - r.length)) [] false := by
  have hc : c.length ≤ 9223372036854775807 := hc
  have hr : r.length ≤ 9223372036854775807 := hr
  refine mkC false false Tryz.func10 rfl ?_
  refine And.intro nofun ?_
  iterate 2 refine Z ?_
  refine lenS.mk _ rfl ?_
  refine nw (by omega) (by omega) ?_
  refine twoP.mk (fun _ => ?_) (fun _ => ?_)
  rotate_left
  refine Z ?_
  refine lenS.mk _ rfl ?_
  refine nw (by omega) (by omega) ?_
  refine twoP.mk (fun _ => ?_) (fun _ => ?_)
  iterate 2 rotate_left
  · rw [if_pos (by omega)]
    refine doneV.mk [] [] rfl rfl ?_ ?_ ?_
    repeat' first | exact trivial | exact rfl | exact Iff.rfl | assumption | exact pureI | exact (show _ = _ by omega) | exact (show _ ≤ _ by omega) | exact (show _ < _ by omega) | exact (show ¬ _ by omega) | refine And.intro ?_ ?_
  · rw [if_pos (by omega)]
    refine doneV.mk [] [] rfl rfl ?_ ?_ ?_
    repeat' first | exact trivial | exact rfl | exact Iff.rfl | assumption | exact pureI | exact (show _ = _ by omega) | exact (show _ ≤ _ by omega) | exact (show _ < _ by omega) | exact (show ¬ _ by omega) | refine And.intro ?_ ?_
  · rw [if_neg (by omega)]
    refine doneV.mk [] [] rfl rfl ?_ ?_ ?_
    repeat' first | exact trivial | exact rfl | exact Iff.rfl | assumption | exact pureI | exact (show _ = _ by omega) | exact (show _ ≤ _ by omega) | exact (show _ < _ by omega) | exact (show ¬ _ by omega) | refine And.intro ?_ ?_
theorem szConsole_cN (y : Yd) (hy : fitY 9223372036854775807 y) (D P : List UInt8) (n : Int) (hD : fitS D) (hP : fitS P) (h : szY y 1048576 < 0 ∨ szY y 1048576 < (D.length : Int) + P.length) : C 4 [conv y D P n, i64 1048576] [] (i64 (-1)) [] false := by
  refine mkC false false Tryz.func4 rfl ?_
  refine And.intro nofun ?_
  by_cases h1 : szY y 1048576 < 0
  · iterate 2 refine Z ?_
    refine And.intro (Nat.le_of_ble_eq_true rfl) ?_
    refine callW.mk [] 1 _ _ _ (szYard_c _ (by first | omega | assumption | (simp; omega) | (simp; done))) rfl rfl trivial nofun ?_
    refine tY (by first | omega | assumption | exact rfl | exact Iff.rfl) ?_
    rotate_left
    refine doneV.mk [] [] rfl rfl ?_ ?_ ?_
    repeat' first | exact trivial | exact rfl | exact Iff.rfl | assumption | exact pureI | exact (show _ = _ by omega) | exact (show _ ≤ _ by omega) | exact (show _ < _ by omega) | exact (show ¬ _ by omega) | refine And.intro ?_ ?_
  · have h2 : szY y 1048576 < (D.length : Int) + P.length := h.resolve_left h1
    have h3 := szY_le (y := y)
    have hs := szLog2_c D P n hD hP (szY y 1048576) (by omega)
    rw [if_pos h2] at hs
    iterate 2 refine Z ?_
    refine And.intro (Nat.le_of_ble_eq_true rfl) ?_
    refine callW.mk [] 1 _ _ _ (szYard_c _ (by first | omega | assumption | (simp; omega) | (simp; done))) rfl rfl trivial nofun ?_
    refine tN (by first | omega | assumption | exact fun h => h (by assumption) | exact fun h => h rfl | exact fun h => h Iff.rfl) ?_
    refine Z ?_
    refine And.intro (Nat.le_of_ble_eq_true rfl) ?_
    refine callW.mk [] 1 _ _ _ (hs) rfl rfl (by repeat' first | exact trivial | assumption | exact knownSS | exact knownApp knownSS knownNil | refine And.intro ?_ ?_) nofun ?_
    refine tY (by first | omega | assumption | exact rfl | exact Iff.rfl) ?_
    rotate_left
    refine doneV.mk [] [] rfl rfl ?_ ?_ ?_
    repeat' first | exact trivial | exact rfl | exact Iff.rfl | assumption | exact pureI | exact (show _ = _ by omega) | exact (show _ ≤ _ by omega) | exact (show _ < _ by omega) | exact (show ¬ _ by omega) | refine And.intro ?_ ?_
theorem szConsole_cY (y : Yd) (hy : fitY 9223372036854775807 y) (D P : List UInt8) (n : Int) (hD : fitS D) (hP : fitS P) (h1 : ¬ szY y 1048576 < 0) (h2 : ¬ szY y 1048576 < (D.length : Int) + P.length) : C 4 [conv y D P n, i64 1048576] [] (i64 (szY y 1048576 - D.length - P.length)) [] false := by
  refine mkC false false Tryz.func4 rfl ?_
  refine And.intro nofun ?_
  have h3 := szY_le (y := y)
  have hs := szLog2_c D P n hD hP (szY y 1048576) (by omega)
  rw [if_neg h2] at hs
  iterate 2 refine Z ?_
  refine And.intro (Nat.le_of_ble_eq_true rfl) ?_
  refine callW.mk [] 1 _ _ _ (szYard_c _ (by first | omega | assumption | (simp; omega) | (simp; done))) rfl rfl trivial nofun ?_
  refine tN (by first | omega | assumption | exact fun h => h (by assumption) | exact fun h => h rfl | exact fun h => h Iff.rfl) ?_
  refine Z ?_
  refine And.intro (Nat.le_of_ble_eq_true rfl) ?_
  refine callW.mk [] 1 _ _ _ (hs) rfl rfl (by repeat' first | exact trivial | assumption | exact knownSS | exact knownApp knownSS knownNil | refine And.intro ?_ ?_) nofun ?_
  refine tN (by first | omega | assumption | exact fun h => h (by assumption) | exact fun h => h rfl | exact fun h => h Iff.rfl) ?_
  rotate_left
  refine doneV.mk [] [] rfl rfl ?_ ?_ ?_
  repeat' first | exact trivial | exact rfl | exact Iff.rfl | assumption | exact pureI | exact (show _ = _ by omega) | exact (show _ ≤ _ by omega) | exact (show _ < _ by omega) | exact (show ¬ _ by omega) | refine And.intro ?_ ?_
theorem IsValidConsole_c (y : Yd) (hy : fitY 1099511627776 y) (D P : List UInt8) (n : Int) (hD : D.length ≤ 1048576) (hP : P.length ≤ 1048576) : C 7 [conv y D P n] [] (pr (good y ∧ logOk D P n)) [] false := by
  refine mkC false false Tryz.func7 rfl ?_
  refine And.intro nofun ?_
  iterate 2 refine Z ?_
  refine And.intro (Nat.le_of_ble_eq_true rfl) ?_
  refine callW.mk [] 1 _ _ _ (IsYard_c _ (by first | omega | assumption | (simp; omega) | (simp; done))) rfl rfl trivial nofun ?_
  refine twoP.mk (fun _ => ?_) (fun _ => ?_)
  refine Z ?_
  refine And.intro (Nat.le_of_ble_eq_true rfl) ?_
  refine callW.mk [] 1 _ _ _ (IsValidLog_c _ _ _ (by first | omega | assumption | (simp; omega) | (simp; done)) (by first | omega | assumption | (simp; omega) | (simp; done))) rfl rfl trivial nofun ?_
  iterate 2 rotate_left
  · rename_i h1
    refine doneV.mk [] [] rfl rfl ?_ ?_ ?_
    repeat' first | exact trivial | exact rfl | exact Iff.rfl | assumption | exact pureI | exact (show _ = _ by omega) | exact (show _ ≤ _ by omega) | exact (show _ < _ by omega) | exact (show ¬ _ by omega) | refine And.intro ?_ ?_
    exact (show _ ↔ _ from ⟨fun h => ⟨h1, h⟩, fun h => h.2⟩)
  · rename_i h1
    refine doneV.mk [] [] rfl rfl ?_ ?_ ?_
    repeat' first | exact trivial | exact rfl | exact Iff.rfl | assumption | exact pureI | exact (show _ = _ by omega) | exact (show _ ≤ _ by omega) | exact (show _ < _ by omega) | exact (show ¬ _ by omega) | refine And.intro ?_ ?_
    exact fun h => h1 h.1
theorem sIsValidConsole_c (y : Yd) (hy : fitY 1099511627776 y) (D P : List UInt8) (n : Int) (hD : D.length ≤ 1048576) (hP : P.length ≤ 1048576) : C 5 [conv y D P n] [] (pr (good y ∧ logOk D P n)) [] false := by
  refine mkC false false Tryz.func5 rfl ?_
  refine And.intro nofun ?_
  iterate 2 refine Z ?_
  refine And.intro (Nat.le_of_ble_eq_true rfl) ?_
  refine callW.mk [] 1 _ _ _ (l12Good_c _ (by first | omega | assumption | (simp; omega) | (simp; done))) rfl rfl trivial nofun ?_
  refine twoP.mk (fun _ => ?_) (fun _ => ?_)
  refine Z ?_
  refine And.intro (Nat.le_of_ble_eq_true rfl) ?_
  refine callW.mk [] 1 _ _ _ (l12Valid_c _ _ _ (by first | omega | assumption | (simp; omega) | (simp; done)) (by first | omega | assumption | (simp; omega) | (simp; done))) rfl rfl trivial nofun ?_
  iterate 2 rotate_left
  · rename_i h1
    refine doneV.mk [] [] rfl rfl ?_ ?_ ?_
    repeat' first | exact trivial | exact rfl | exact Iff.rfl | assumption | exact pureI | exact (show _ = _ by omega) | exact (show _ ≤ _ by omega) | exact (show _ < _ by omega) | exact (show ¬ _ by omega) | refine And.intro ?_ ?_
    exact (show _ ↔ _ from ⟨fun h => ⟨h1, h⟩, fun h => h.2⟩)
  · rename_i h1
    refine doneV.mk [] [] rfl rfl ?_ ?_ ?_
    repeat' first | exact trivial | exact rfl | exact Iff.rfl | assumption | exact pureI | exact (show _ = _ by omega) | exact (show _ ≤ _ by omega) | exact (show _ < _ by omega) | exact (show ¬ _ by omega) | refine And.intro ?_ ?_
    exact fun h => h1 h.1
theorem toConsole_c (y : Yd) (hy : fitY 1099511627776 y) (D P : List UInt8) (n : Int) : C 6 [conv y D P n] [] (.agg [i64 y.n, bv y.b, .loc 0, .loc 1, .loc 2, i64 y.c, .str D, .str P, i64 n]) [row y.w, rowS y.S, rowK y.K] false := by
  have h1 := hy.1
  have h2 := hy.2.1
  have h3 := hy.2.2
  refine mkC false false Tryz.func6 rfl ?_
  refine And.intro nofun ?_
  iterate 4 refine Z ?_
  refine And.intro (Nat.le_of_ble_eq_true rfl) ?_
  refine callW.mk [] 3 _ _ _ (toYard_c _ (by first | omega | assumption | (simp; omega) | (simp; done))) rfl rfl trivial nofun ?_
  iterate 6 refine Z ?_
  refine And.intro (Nat.le_of_ble_eq_true rfl) ?_
  refine callW.mk [] 6 _ _ _ (toLog_c _ _ _) rfl rfl trivial nofun ?_
  iterate 9 refine Z ?_
  rotate_left
  refine doneV.mk [] [3, 4, 5] rfl rfl ?_ ?_ ?_
  repeat' first | exact trivial | exact rfl | exact Iff.rfl | assumption | exact pureI | exact (show _ = _ by omega) | exact (show _ ≤ _ by omega) | exact (show _ < _ by omega) | exact (show ¬ _ by omega) | refine And.intro ?_ ?_
  all_goals first | exact pureSen | exact pureCar | exact pureI
theorem eqConsole2_c (y : Yd) (hy : fitY 1099511627776 y) (a b : List UInt8) (n : Int) : C 8 [conv y a b n, conv y a b n] [] .tt [] false := by
  refine mkC false false Tryz.func8 rfl ?_
  refine And.intro nofun ?_
  iterate 3 refine Z ?_
  refine And.intro (Nat.le_of_ble_eq_true rfl) ?_
  refine Z ?_
  refine And.intro (Nat.le_of_ble_eq_true rfl) ?_
  refine callW.mk [] 2 _ _ _ (eqYard_cP _ _ _ _ _ _ _ _ _ _ _ _ (by first | omega | assumption | (simp; omega) | (simp; done)) (by first | omega | assumption | (simp; omega) | (simp; done)) (by first | omega | assumption | (simp; omega) | (simp; done)) (by first | omega | assumption | (simp; omega) | (simp; done)) (by first | omega | assumption | (simp; omega) | (simp; done)) (by first | omega | assumption | (simp; omega) | (simp; done))) rfl rfl trivial nofun ?_
  refine tN (by first | omega | assumption | exact fun h => h (by assumption) | exact fun h => h rfl | exact fun h => h Iff.rfl) ?_
  refine Z ?_
  refine And.intro (Nat.le_of_ble_eq_true rfl) ?_
  refine Z ?_
  refine And.intro (Nat.le_of_ble_eq_true rfl) ?_
  refine callW.mk [] 2 _ _ _ (eqLogs_c _ _ _ _ _ _) rfl rfl trivial nofun ?_
  refine twoN (fun _ => ?_) (fun _ => ?_)
  iterate 2 rotate_left
  · rename_i h1
    exact (h1 ⟨rfl, rfl, rfl⟩).elim
  · refine doneV.mk [] [] rfl rfl ?_ ?_ ?_
    repeat' first | exact trivial | exact rfl | exact Iff.rfl | assumption | exact pureI | exact (show _ = _ by omega) | exact (show _ ≤ _ by omega) | exact (show _ < _ by omega) | exact (show ¬ _ by omega) | refine And.intro ?_ ?_
theorem FnExactIsValidConsole_c (y : Yd) (hy : fitY 9223372036854775807 y) (D P : List UInt8) (n : Int) (hD : fitS D) (hP : fitS P) : C 3 [conv y D P n] [] .tt [] false := by
  refine mkC false false Tryz.func3 rfl ?_
  refine And.intro nofun ?_
  by_cases h : szY y 1048576 < 0 ∨ szY y 1048576 < (D.length : Int) + P.length
  · refine Z ?_
    refine callW.mk [] 1 _ _ _ ((szConsole_cN y hy D P n hD hP h)) rfl rfl (by repeat' first | exact trivial | assumption | exact knownSS | exact knownApp knownSS knownNil | refine And.intro ?_ ?_) nofun ?_
    refine tY (by first | omega | assumption | exact rfl | exact Iff.rfl) ?_
    rotate_left
    refine doneV.mk [] [] rfl rfl ?_ ?_ ?_
    repeat' first | exact trivial | exact rfl | exact Iff.rfl | assumption | exact pureI | exact (show _ = _ by omega) | exact (show _ ≤ _ by omega) | exact (show _ < _ by omega) | exact (show ¬ _ by omega) | refine And.intro ?_ ?_
  · have h1 : ¬ szY y 1048576 < 0 := fun x => h (.inl x)
    have h2 : ¬ szY y 1048576 < (D.length : Int) + P.length := fun x => h (.inr x)
    have h3 := szY_le (y := y)
    have hf := szY_ok h1
    have hf2 : fitY 1099511627776 y := ⟨by have := hf.1; omega, by have := hf.2.1; omega, by have := hf.2.2; omega⟩
    have hD2 : D.length ≤ 1048576 := by omega
    have hP2 : P.length ≤ 1048576 := by omega
    have g1 := hf2.1
    have g2 := hf2.2.1
    have g3 := hf2.2.2
    refine Z ?_
    refine callW.mk [] 1 _ _ _ ((szConsole_cY y hy D P n hD hP h1 h2)) rfl rfl (by repeat' first | exact trivial | assumption | exact knownSS | exact knownApp knownSS knownNil | refine And.intro ?_ ?_) nofun ?_
    refine tN (by first | omega | assumption | exact fun h => h (by assumption) | exact fun h => h rfl | exact fun h => h Iff.rfl) ?_
    refine callW.mk [] 1 _ _ _ (toConsole_c _ (by first | omega | assumption | (simp; omega) | (simp; done)) _ _ _) rfl rfl trivial nofun ?_
    refine callW.mk [] 4 _ _ _ ((sIsValidConsole_c y hf2 D P n hD2 hP2)) rfl rfl (by repeat' first | exact trivial | assumption | exact knownSS | exact knownApp knownSS knownNil | refine And.intro ?_ ?_) nofun ?_
    refine callW.mk [] 4 _ _ _ (toConsole_c _ (by first | omega | assumption | (simp; omega) | (simp; done)) _ _ _) rfl rfl trivial nofun ?_
    iterate 5 refine Z ?_
    refine callW.mk [] 8 _ _ _ ((IsValidConsole_c y hf2 D P n hD2 hP2)) rfl rfl (by repeat' first | exact trivial | assumption | exact knownSS | exact knownApp knownSS knownNil | refine And.intro ?_ ?_) nofun ?_
    refine tN (by first | omega | assumption | exact fun h => h (by assumption) | exact fun h => h rfl | exact fun h => h Iff.rfl) ?_
    refine drawP.mkS (Z (Z ?_))
    refine Z ?_
    apply exP.mk
    exact rfl
    apply exP.mk
    exact rfl
    refine callW.mk [] 8 _ _ _ (toConsole_c _ (by first | omega | assumption | (simp; omega) | (simp; done)) _ _ _) rfl rfl trivial nofun ?_
    iterate 2 refine Z ?_
    refine callW.mk [] 11 _ _ _ (eqConsole2_c _ (by first | omega | assumption | (simp; omega) | (simp; done)) _ _ _) rfl rfl trivial nofun ?_
    refine Z ?_
    apply exP.mk
    exact rfl
    rotate_left
    all_goals exact dv0 rfl trivial
end Sx
