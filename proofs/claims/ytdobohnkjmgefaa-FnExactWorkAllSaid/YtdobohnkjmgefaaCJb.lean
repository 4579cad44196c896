/- Contracts: the law of many jobs. -/
import Derived.Test.YtdobohnkjmgefaaCy
import Derived.Test.YtdobohnkjmgefaaCz
import Derived.Test.YtdobohnkjmgefaaCJa
set_option linter.all false
namespace Sx
open Go Go.Proofs
set_option maxRecDepth 100000
set_option maxHeartbeats 8000000
set_option linter.unusedSimpArgs false
set_option linter.unusedSectionVars false
variable [Glb]
theorem szY_le2 {y : Yd} : szY y 1048576 ≤ 1048576 := by
  unfold szY
  repeat' split
  all_goals omega
theorem FnExactWorkAll_c (y : Yd) (hy : fitY 9223372036854775807 y) (L : List Jb) (hL : L.length ≤ 9223372036854775807) : C 7 [yv y, jobs L] [] .tt [] false := by
  refine mkC false false Try.func7 rfl ?_
  refine And.intro nofun ?_
  by_cases hs : szY y 1048576 < 0
  · refine Z ?_
    refine callW.mk [] 1 _ _ _ (szYard_c _ (by first | omega | assumption | (simp; omega) | (simp; done))) rfl rfl trivial nofun ?_
    refine tY (by first | omega | assumption | exact rfl | exact Iff.rfl) ?_
    rotate_left
    all_goals exact dv0 rfl trivial
  · have hle := szY_le2 (y := y)
    by_cases hsL : szY y 1048576 < (L.length : Int)
    · refine Z ?_
      refine callW.mk [] 1 _ _ _ (szYard_c _ (by first | omega | assumption | (simp; omega) | (simp; done))) rfl rfl trivial nofun ?_
      refine tN (by first | omega | assumption | exact fun h => h (by assumption) | exact fun h => h rfl | exact fun h => h Iff.rfl) ?_
      refine callW.mk [] 1 _ _ _ ((szJobS_c L hL (szY y 1048576) ⟨by omega, hle⟩)) rfl rfl (by repeat' first | exact trivial | assumption | exact knownSS | exact knownApp knownSS knownNil | refine And.intro ?_ ?_) nofun ?_
      refine tY (by first | omega | assumption | exact rfl | exact Iff.rfl) ?_
      rotate_left
      all_goals exact dv0 rfl trivial
    · have hf := szY_ok hs
      have h1 := hf.1
      have h2 := hf.2.1
      have h3 := hf.2.2
      have hf2 : fitY 1099511627776 y := ⟨by omega, by omega, by omega⟩
      have hL2 : L.length ≤ 1099511627776 := by omega
      have hf3 := waY_fit (y := y) (L := L)
      have h4 := hf3.1
      have h5 := hf3.2.1
      have h6 := hf3.2.2
      refine Z ?_
      refine callW.mk [] 1 _ _ _ (szYard_c _ (by first | omega | assumption | (simp; omega) | (simp; done))) rfl rfl trivial nofun ?_
      refine tN (by first | omega | assumption | exact fun h => h (by assumption) | exact fun h => h rfl | exact fun h => h Iff.rfl) ?_
      refine callW.mk [] 1 _ _ _ ((szJobS_c L hL (szY y 1048576) ⟨by omega, hle⟩)) rfl rfl (by repeat' first | exact trivial | assumption | exact knownSS | exact knownApp knownSS knownNil | refine And.intro ?_ ?_) nofun ?_
      refine tN (by first | omega | assumption | exact fun h => h (by assumption) | exact fun h => h rfl | exact fun h => h Iff.rfl) ?_
      refine callW.mk [] 1 _ _ _ (toYard_c _ (by first | omega | assumption | (simp; omega) | (simp; done))) rfl rfl trivial nofun ?_
      refine callW.mk [] 4 _ _ _ (toJobS_c _ (by first | omega | assumption | (simp; omega) | (simp; done))) rfl rfl trivial nofun ?_
      refine callW.mk [] 5 _ _ _ ((sWorkAll_c y hf2 L hL2)) rfl rfl (by repeat' first | exact trivial | assumption | exact knownSS | exact knownApp knownSS knownNil | refine And.intro ?_ ?_) nofun ?_
      iterate 5 refine Z ?_
      refine callW.mk [] 9 _ _ _ (toYard_c _ (by first | omega | assumption | (simp; omega) | (simp; done))) rfl rfl trivial nofun ?_
      iterate 5 refine Z ?_
      refine callW.mk [] 13 _ _ _ (toJobS_c _ (by first | omega | assumption | (simp; omega) | (simp; done))) rfl rfl trivial nofun ?_
      refine callW.mk [] 14 _ _ _ ((WorkAll_c y hf2 L hL2)) rfl rfl (by repeat' first | exact trivial | assumption | exact knownSS | exact knownApp knownSS knownNil | refine And.intro ?_ ?_) nofun ?_
      iterate 5 refine Z ?_
      refine callW.mk [] 18 _ _ _ (eqYard_cP _ _ _ _ _ _ _ _ _ _ _ _ (by first | omega | assumption | (simp; omega) | (simp; done)) (by first | omega | assumption | (simp; omega) | (simp; done)) (by first | omega | assumption | (simp; omega) | (simp; done)) (by first | omega | assumption | (simp; omega) | (simp; done)) (by first | omega | assumption | (simp; omega) | (simp; done)) (by first | omega | assumption | (simp; omega) | (simp; done))) rfl rfl trivial nofun ?_
      iterate 3 refine tN (by first | omega | assumption | exact fun h => h (by assumption) | exact fun h => h rfl | exact fun h => h Iff.rfl) ?_
      refine drawP.mkS (Z (Z ?_))
      refine Z ?_
      apply exP.mk
      exact rfl
      apply exP.mk
      exact rfl
      refine callW.mk [] 18 _ _ _ (toYard_c _ (by first | omega | assumption | (simp; omega) | (simp; done))) rfl rfl trivial nofun ?_
      iterate 2 refine Z ?_
      refine callW.mk [] 21 _ _ _ (eqYard_cP _ _ _ _ _ _ _ _ _ _ _ _ (by first | omega | assumption | (simp; omega) | (simp; done)) (by first | omega | assumption | (simp; omega) | (simp; done)) (by first | omega | assumption | (simp; omega) | (simp; done)) (by first | omega | assumption | (simp; omega) | (simp; done)) (by first | omega | assumption | (simp; omega) | (simp; done)) (by first | omega | assumption | (simp; omega) | (simp; done))) rfl rfl trivial nofun ?_
      refine Z ?_
      apply exP.mk
      exact rfl
      refine tN (by first | omega | assumption | exact fun h => h (by assumption) | exact fun h => h rfl | exact fun h => h Iff.rfl) ?_
      refine callW.mk [] 21 _ _ _ (toJobS_c _ (by first | omega | assumption | (simp; omega) | (simp; done))) rfl rfl trivial nofun ?_
      refine callW.mk [] 22 _ _ _ (eqJobS_c _ _ (by first | omega | assumption | (simp; omega) | (simp; done)) (by first | omega | assumption | (simp; omega) | (simp; done))) rfl rfl trivial nofun ?_
      refine tN (by first | omega | assumption | exact fun h => h (by assumption) | exact fun h => h rfl | exact fun h => h Iff.rfl) ?_
      refine callW.mk [9, 10, 11] 22 _ _ _ (markYard_c _ _ _ _ _ _ (by first | omega | assumption | (simp; omega) | (simp; done)) (by first | omega | assumption | (simp; omega) | (simp; done)) (by first | omega | assumption | (simp; omega) | (simp; done))) rfl rfl trivial nofun ?_
      refine callW.mk [13] 22 _ _ _ (markJobS_c _ (by first | omega | assumption | (simp; omega) | (simp; done)) _ (by first | omega | assumption | (simp; omega) | (simp; done)) (by first | omega | assumption | (simp; omega) | (simp; done))) rfl rfl trivial nofun ?_
      refine tN (by first | omega | assumption | exact fun h => h (by assumption) | exact fun h => h rfl | exact fun h => h Iff.rfl) ?_
      refine callW.mk [] 22 _ _ _ (eqYard_cP _ _ _ _ _ _ _ _ _ _ _ _ (by first | omega | assumption | (simp; omega) | (simp; done)) (by first | omega | assumption | (simp; omega) | (simp; done)) (by first | omega | assumption | (simp; omega) | (simp; done)) (by first | omega | assumption | (simp; omega) | (simp; done)) (by first | omega | assumption | (simp; omega) | (simp; done)) (by first | omega | assumption | (simp; omega) | (simp; done))) rfl rfl trivial nofun ?_
      iterate 3 refine tN (by first | omega | assumption | exact fun h => h (by assumption) | exact fun h => h rfl | exact fun h => h Iff.rfl) ?_
      refine callW.mk [14, 15, 16] 22 _ _ _ (markYard_c _ _ _ _ _ _ (by first | omega | assumption | (simp; omega) | (simp; done)) (by first | omega | assumption | (simp; omega) | (simp; done)) (by first | omega | assumption | (simp; omega) | (simp; done))) rfl rfl trivial nofun ?_
      refine callW.mk [] 22 _ _ _ (heldYard_c _ _ _ _ _ _ (by first | omega | assumption | (simp; omega) | (simp; done)) (by first | omega | assumption | (simp; omega) | (simp; done)) (by first | omega | assumption | (simp; omega) | (simp; done))) rfl rfl trivial nofun ?_
      iterate 2 refine tN (by first | omega | assumption | exact fun h => h (by assumption) | exact fun h => h rfl | exact fun h => h Iff.rfl) ?_
      refine callW.mk [] 22 _ _ _ (toYard_c _ (by first | omega | assumption | (simp; omega) | (simp; done))) rfl rfl trivial nofun ?_
      refine callW.mk [] 25 _ _ _ (toJobS_c _ (by first | omega | assumption | (simp; omega) | (simp; done))) rfl rfl trivial nofun ?_
      refine callW.mk [] 26 _ _ _ ((WorkAll_c y hf2 L hL2)) rfl rfl (by repeat' first | exact trivial | assumption | exact knownSS | exact knownApp knownSS knownNil | refine And.intro ?_ ?_) nofun ?_
      iterate 5 refine Z ?_
      refine callW.mk [] 30 _ _ _ (eqYard_cP _ _ _ _ _ _ _ _ _ _ _ _ (by first | omega | assumption | (simp; omega) | (simp; done)) (by first | omega | assumption | (simp; omega) | (simp; done)) (by first | omega | assumption | (simp; omega) | (simp; done)) (by first | omega | assumption | (simp; omega) | (simp; done)) (by first | omega | assumption | (simp; omega) | (simp; done)) (by first | omega | assumption | (simp; omega) | (simp; done))) rfl rfl trivial nofun ?_
      iterate 3 refine tN (by first | omega | assumption | exact fun h => h (by assumption) | exact fun h => h rfl | exact fun h => h Iff.rfl) ?_
      refine callW.mk [] 30 _ _ _ (heldYard_c _ _ _ _ _ _ (by first | omega | assumption | (simp; omega) | (simp; done)) (by first | omega | assumption | (simp; omega) | (simp; done)) (by first | omega | assumption | (simp; omega) | (simp; done))) rfl rfl trivial nofun ?_
      iterate 2 refine tN (by first | omega | assumption | exact fun h => h (by assumption) | exact fun h => h rfl | exact fun h => h Iff.rfl) ?_
      rotate_left
      all_goals exact dv0 rfl trivial
end Sx
