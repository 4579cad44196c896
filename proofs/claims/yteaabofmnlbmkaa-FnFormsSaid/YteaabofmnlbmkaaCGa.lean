/- Contracts: what the laws compare with. -/
import Derived.Test.YteaabofmnlbmkaaCa
import Derived.Test.YteaabofmnlbmkaaMxA
import Derived.Test.YteaabofmnlbmkaaMxVf
set_option linter.all false
namespace Sx
open Go Go.Proofs
set_option maxRecDepth 100000
set_option maxHeartbeats 8000000
set_option linter.unusedSimpArgs false
set_option linter.unusedSectionVars false
variable [Glb]
theorem rBig_c (L : List UInt8) (hL : L.length ≤ 9223372036854775807) : C 34 [.sl 1 (L.map i8)] [] (pr (65536 < (L.length : Int))) [] false := by
  refine mkC false false Try.func34 rfl ?_; refine And.intro nofun ?_; refine lm ?_; rotate_left; refine doneV.mk [] [] rfl rfl ?_ ?_ ?_
  repeat' first | exact trivial | exact rfl | exact Iff.rfl | assumption | exact pureI | exact (show _ = _ by omega) | exact (show _ ≤ _ by omega) | exact (show _ < _ by omega) | exact (show ¬ _ by omega) | refine And.intro ?_ ?_
theorem rInts_c (a b : List Int) (hl : a.length ≤ 1099511627776) (hb : b.length ≤ 1099511627776) : C 79 [ints a, ints b] [] (pr (a = b)) [] false := by
  refine mkC false false Try.func79 rfl ?_; refine And.intro nofun ?_; iterate 2 refine lm ?_
  refine twoN (fun _ => ?_) (fun _ => ?_); iterate 2 rotate_left
  · rename_i h1
    refine dv0 rfl ?_
    exact fun h => h1 (by rw [h])
  · rename_i h1
    refine loop_up (β := Nat) (fun k => [(5, i64 k), (4, .unk)]) (fun k => []) [] (fun k => k ≤ a.length ∧ a.take k = b.take k) (fun k => a.length - k) (0) ?_ ?_ ?_
    · simp
    · refine weak.mk [] [] rfl rfl ?_ ?_
      repeat' first | exact trivial | exact rfl | exact Iff.rfl | assumption | refine And.intro ?_ ?_
    · rintro k ⟨hk, hi⟩ R hR
      refine lm ?_; refine twoP.mk (fun _ => ?_) (fun _ => ?_); refine drawP.mk 9 (Z (Z (Z (Z ?_))))
      apply exP.mk
      exact rfl
      apply exP.mk
      exact rfl
      apply exP.mk
      iterate 2 refine Z ?_
      refine jkm (by omega) ?_
      exact rfl
      apply exP.mk
      refine gm (by omega) ?_
      exact rfl
      apply exP.mk
      exact rfl
      apply exP.mk
      exact rfl
      apply exP.mk
      iterate 2 refine Z ?_
      refine jkm (by omega) ?_
      exact rfl
      apply exP.mk
      refine gm (by omega) ?_
      exact rfl
      apply exP.mk
      exact rfl
      refine twoN (fun _ => ?_) (fun _ => ?_); rotate_left; refine nw (by omega) (by omega) ?_; iterate 2 rotate_left
      · rename_i h2 h3
        refine dv0 rfl ?_
        exact fun h => h3 (by subst h; rfl)
      · rename_i h2 h3
        refine hR (k + 1) _ _ ?_ (weak.mk [] [] rfl rfl ?_ ?_)
        repeat' first | exact trivial | exact rfl | exact Iff.rfl | assumption | refine And.intro ?_ ?_
        exact ⟨⟨by omega, (eq_take (by omega) (by omega)).2 ⟨hi, h3⟩⟩, by omega⟩
      · rename_i h2
        rw [take_all h2, take_all (by omega)] at hi
        refine dv0 rfl ?_
        exact hi
end Sx
