/- Contracts: numbers, lists, roads. -/
import Derived.Test.YteaabofmnlbmkaaGreatMxA
import Derived.Test.YteaabofmnlbmkaaGreatProg
set_option linter.all false
namespace Sx
open Go Go.Proofs
set_option maxRecDepth 100000
set_option maxHeartbeats 4000000
set_option linter.unusedSimpArgs false
set_option linter.unusedSectionVars false
variable [Glb]
abbrev C (f : FuncId) (args : List AV) (muts : List Ent) (r : AV) (muts' : List Ent) (al : Bool) : Prop := Cf Tryz.prog f args muts (is r muts') al
abbrev CE {α : Type} (f : FuncId) (args : List AV) (muts : List Ent) (p : α → Prop) (rf : α → AV) (mf : α → List Ent) (al : Bool) : Prop := Cf Tryz.prog f args muts (some' p rf mf) al
theorem within_c (a b c : Int) : C 49 [i64 a, i64 b, i64 c] [] (pr (b ≤ a ∧ a ≤ c)) [] false := by
  refine mkC false false Tryz.func49 rfl ?_; refine And.intro nofun ?_; refine twoP.mk (fun _ => ?_) (fun _ => ?_); iterate 2 rotate_left
  all_goals refine dv0 rfl ?_
  · exact (show _ ↔ _ by omega)
  · exact (show ¬ _ by omega)
theorem in_c (a b c : Int) : C 75 [i64 a, i64 b, i64 c] [] (pr (b ≤ a ∧ a ≤ c)) [] false := by
  refine mkC false false Tryz.func75 rfl ?_; refine And.intro nofun ?_; refine twoP.mk (fun _ => ?_) (fun _ => ?_); iterate 2 rotate_left
  all_goals refine dv0 rfl ?_
  · exact (show _ ↔ _ by omega)
  · exact (show ¬ _ by omega)
theorem allWithin_c (l : List Int) (hl : l.length ≤ 1099511627776) (b c : Int) : C 82 [ints l, i64 b, i64 c] [] (pr (∀ x ∈ l, b ≤ x ∧ x ≤ c)) [] false := by
  refine mkC false false Tryz.func82 rfl ?_; refine And.intro nofun ?_; refine lm ?_; rotate_left; refine loop_up (β := Nat) (fun k => [(11, i64 k), (6, .unk)]) (fun k => []) [] (fun k => k ≤ l.length ∧ ∀ x ∈ l.take k, b ≤ x ∧ x ≤ c) (fun k => l.length - k) (0) ?_ ?_ ?_
  · simp
  · refine weak.mk [] [] rfl rfl ?_ ?_
    repeat' first | exact trivial | exact rfl | exact Iff.rfl | assumption | refine And.intro ?_ ?_
  · rintro k ⟨hk, hi⟩ R hR
    refine twoP.mk (fun _ => ?_) (fun _ => ?_); iterate 2 refine Z ?_
    refine jkm (by omega) ?_; refine gm (by omega) ?_; refine callW.mk [] 0 _ _ _ (within_c _ _ _) rfl rfl trivial nofun ?_; refine twoN (fun _ => ?_) (fun _ => ?_); rotate_left; refine nw (by omega) (by omega) ?_; iterate 2 rotate_left
    · rename_i h1 h2
      refine dv0 rfl ?_
      exact fun h => h2 (h _ (List.getElem_mem _))
    · rename_i h1 h2
      refine hR (k + 1) _ _ ?_ (weak.mk [] [] rfl rfl ?_ ?_)
      repeat' first | exact trivial | exact rfl | exact Iff.rfl | assumption | refine And.intro ?_ ?_
      exact ⟨⟨by omega, (all_take (by omega)).2 ⟨hi, h2⟩⟩, by omega⟩
    · rename_i h1
      rw [take_all h1] at hi
      refine dv0 rfl ?_
      exact hi
theorem Index_c (l : List Int) (hl : l.length ≤ 1099511627776) (x : Int) : C 101 [ints l, i64 x] [] (i64 (ixOf l x)) [] false := by
  refine mkC false false Tryz.func101 rfl ?_; refine And.intro nofun ?_; refine lm ?_; rotate_left; refine loop_up (β := Nat) (fun k => [(8, i64 k), (4, .unk)]) (fun k => []) [] (fun k => k ≤ l.length ∧ ∀ y ∈ l.take k, y ≠ x) (fun k => l.length - k) (0) ?_ ?_ ?_
  · simp
  · refine weak.mk [] [] rfl rfl ?_ ?_
    repeat' first | exact trivial | exact rfl | exact Iff.rfl | assumption | refine And.intro ?_ ?_
  · rintro k ⟨hk, hi⟩ R hR
    refine twoP.mk (fun _ => ?_) (fun _ => ?_); iterate 2 refine Z ?_
    refine jkm (by omega) ?_; refine gm (by omega) ?_; refine twoP.mk (fun _ => ?_) (fun _ => ?_); rotate_left; refine nw (by omega) (by omega) ?_; iterate 2 rotate_left
    · rename_i h1 h2
      refine dv0 rfl ?_
      exact ⟨rfl, (ixOf_here (by omega) hi h2).symm⟩
    · rename_i h1 h2
      refine hR (k + 1) _ _ ?_ (weak.mk [] [] rfl rfl ?_ ?_)
      repeat' first | exact trivial | exact rfl | exact Iff.rfl | assumption | refine And.intro ?_ ?_
      exact ⟨⟨by omega, (all_take (by omega)).2 ⟨hi, fun e => h2 e.symm⟩⟩, by omega⟩
    · rename_i h1
      rw [take_all h1] at hi
      refine dv0 rfl ?_
      exact ⟨rfl, (ixOf_no hi).symm⟩
theorem Contains_c (l : List Int) (hl : l.length ≤ 1099511627776) (x : Int) : C 102 [ints l, i64 x] [] (pr (x ∈ l)) [] false := by
  refine mkC false false Tryz.func102 rfl ?_; refine And.intro nofun ?_; refine callW.mk [] 0 _ _ _ (Index_c _ (by first | omega | assumption | (simp; omega) | (simp; done)) _) rfl rfl trivial nofun ?_; rotate_left
  all_goals refine dv0 rfl ?_
  exact ixOf_ge l x
end Sx
