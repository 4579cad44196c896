/- Contracts: axes of the reference, rigid crowds, views and gaps told. -/
import Derived.Test.YteaabofmnlbmkaaSyC
import Derived.Test.YteaabofmnlbmkaaCTb
import Derived.Test.YteaabofmnlbmkaaCRj
set_option linter.all false
namespace Sx
open Go Go.Proofs
set_option maxRecDepth 100000
set_option maxHeartbeats 8000000
set_option linter.unusedSimpArgs false
set_option linter.unusedSectionVars false
variable [Glb]
theorem l10MirrorX_c (n x : Int) (l : List Int) (hc : crowd n l) (hx : 0 ≤ x ∧ x < n) : C 82 [.agg [i64 n, ints l], i64 x] [] (.agg [i64 n, .loc 0]) [row (axm n x l)] false := by
  have hn := hc.1.1
  have hl := hc.1.2
  refine mkC false false Try.func82 rfl ?_; refine And.intro nofun ?_; iterate 17 refine Z ?_
  rotate_left; refine loop_up (β := Nat) (fun k => [(6, i64 k)]) (fun k => [(2, .row .var 2 [.agg [i64 n, .loc 3]]), (3, row (putK n (axF n x) l k))]) [1] (fun k => k ≤ l.length) (fun k => l.length - k) (0) ?_ ?_ ?_
  · omega
  · refine weak.mk [1] [0, 1, 2, 3] rfl rfl ?_ ?_
    repeat' first | exact trivial | exact rfl | exact Iff.rfl | assumption | exact pureI | exact (show _ = _ by omega) | exact (show _ ≤ _ by omega) | exact (show _ < _ by omega) | exact (show ¬ _ by omega) | refine And.intro ?_ ?_
  · rintro k hk R hR
    rw [putK_eq]
    by_cases hkl : k < l.length
    · obtain ⟨hy, hnew⟩ := img_new hc (axF_ok hc) hkl
      have hle := srt_le n ((l.take k).map (axF n x))
      have hkl2 := hc.2.1 _ (List.getElem_mem hkl)
      refine Z ?_; refine lm ?_; refine tY oky ?_; refine drawP.mkS (Z (Z ?_)); refine Z ?_
      apply exP.mk
      refine Z ?_
      exact rfl
      apply exP.mk
      exact rfl
      apply exP.mk
      exact rfl
      apply exP.mk
      refine Z ?_
      exact rfl
      apply exP.mk
      exact rfl
      apply exP.mk
      exact rfl
      apply exP.mk
      iterate 2 refine Z ?_
      refine jkm (by omega) ?_
      exact rfl
      apply exP.mk
      refine gm (by omega) ?_
      exact rfl
      apply exP.mk
      refine nw (by omega) (by omega) ?_
      exact rfl
      apply exP.mk
      refine Z ?_
      exact rfl
      apply exP.mk
      exact rfl
      apply exP.mk
      refine nw (by omega) (by omega) ?_
      exact rfl
      apply exP.mk
      refine Z ?_
      exact rfl
      apply exP.mk
      exact rfl
      apply exP.mk
      refine And.intro (by omega) ?_; refine ntm (by omega) ?_
      exact rfl
      refine callW.mk [] 4 _ _ _ ((putNew_c n ((l.take k).map (axF n x)) (axF n x l[k]) hy (by omega) hnew)) rfl rfl okk nofun ?_; refine Z ?_
      apply exP.mk
      refine Z ?_
      exact rfl
      iterate 5 refine Z ?_
      refine nw (by omega) (by omega) ?_; rotate_left; refine hR (k + 1) _ _ ?_ ?_; rotate_left; refine weak.mk [] [0, 1, 2, 4] rfl rfl ?_ ?_
      repeat' first | exact trivial | exact rfl | exact Iff.rfl | assumption | exact pureI | exact (show _ = _ by omega) | exact (show _ ≤ _ by omega) | exact (show _ < _ by omega) | exact (show ¬ _ by omega) | refine And.intro ?_ ?_
      rotate_right
      · exact ⟨by omega, by omega⟩
      · exact map_congr (img_next hkl)
    · refine Z ?_
      refine lm ?_; refine tN okn ?_; iterate 4 refine Z ?_
      rotate_left; refine doneV.mk [] [3] rfl rfl ?_ ?_ ?_
      repeat' first | exact trivial | exact rfl | exact Iff.rfl | assumption | exact pureI | exact (show _ = _ by omega) | exact (show _ ≤ _ by omega) | exact (show _ < _ by omega) | exact (show ¬ _ by omega) | refine And.intro ?_ ?_
      exact map_congr (by rw [List.take_of_length_le (by omega)]; rfl)
def rigid (n : Int) (l : List Int) : Prop := perI n l = n ∧ axL n l = []
open Classical in
noncomputable instance (n : Int) (l : List Int) : Decidable (rigid n l) := propDecidable _
end Sx
