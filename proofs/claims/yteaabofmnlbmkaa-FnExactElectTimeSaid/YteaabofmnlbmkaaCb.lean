/- Contracts: gaps, walks, chasers. -/
import Derived.Test.YteaabofmnlbmkaaMxB
import Derived.Test.YteaabofmnlbmkaaCa
set_option linter.all false
namespace Sx
open Go Go.Proofs
set_option maxRecDepth 100000
set_option maxHeartbeats 4000000
set_option linter.unusedSimpArgs false
set_option linter.unusedSectionVars false
variable [Glb]
theorem most_c (a b : Int) : C 60 [i64 a, i64 b] [] (i64 (max a b)) [] false := by
  refine mkC false false Try.func60 rfl ?_
  refine And.intro nofun ?_
  refine twoP.mk (fun _ => ?_) (fun _ => ?_)
  iterate 2 rotate_left
  all_goals
    refine dv0 rfl ?_
    exact ⟨rfl, by omega⟩
theorem least_c (a b : Int) : C 76 [i64 a, i64 b] [] (i64 (min a b)) [] false := by
  refine mkC false false Try.func76 rfl ?_
  refine And.intro nofun ?_
  refine twoP.mk (fun _ => ?_) (fun _ => ?_)
  iterate 2 rotate_left
  all_goals
    refine dv0 rfl ?_
    exact ⟨rfl, by omega⟩
theorem gap_c (n : Int) (b : Bool) (x y : Int) (hn : 0 ≤ n ∧ n ≤ 1099511627776) (hx : -1099511627776 ≤ x ∧ x ≤ 1099511627776) (hy : -1099511627776 ≤ y ∧ y ≤ 1099511627776) : C 62 [rd n b, i64 x, i64 y] [] (i64 (gap n b x y)) [] false := by
  refine mkC false false Try.func62 rfl ?_
  refine And.intro nofun ?_
  refine Z ?_
  iterate 2 refine nw (by omega) (by omega) ?_
  refine nr ?_
  refine Z ?_
  refine twoP.mk (fun _ => ?_) (fun _ => ?_)
  refine Z ?_
  refine nw (by omega) (by omega) ?_
  refine nr ?_
  iterate 2 rotate_left
  · rename_i h
    refine dv0 rfl ?_
    exact ⟨rfl, by unfold gap; rw [if_pos h]⟩
  · rename_i h
    refine dv0 rfl ?_
    exact ⟨rfl, by unfold gap; rw [if_neg h]⟩
theorem l2Gap_c (n : Int) (b : Bool) (x y : Int) (hn : 0 ≤ n ∧ n ≤ 1099511627776) (hx : -1099511627776 ≤ x ∧ x ≤ 1099511627776) (hy : -1099511627776 ≤ y ∧ y ≤ 1099511627776) : C 61 [rd n b, i64 x, i64 y] [] (i64 (gap n b x y)) [] false := by
  refine mkC false false Try.func61 rfl ?_
  refine And.intro nofun ?_
  refine Z ?_
  iterate 2 refine nw (by omega) (by omega) ?_
  refine callW.mk [] 1 _ _ _ (most_c _ _) rfl rfl trivial nofun ?_
  refine Z ?_
  refine twoP.mk (fun _ => ?_) (fun _ => ?_)
  refine Z ?_
  refine nw (by omega) (by omega) ?_
  refine callW.mk [] 1 _ _ _ (least_c _ _) rfl rfl trivial nofun ?_
  iterate 2 rotate_left
  · rename_i h
    refine dv0 rfl ?_
    exact ⟨rfl, by unfold gap; rw [if_pos h]⟩
  · rename_i h
    refine dv0 rfl ?_
    exact ⟨rfl, by unfold gap; rw [if_neg h]⟩
theorem IndexFuncSS_c1 {f sz j t : Nat} {es : List AV} (p : List Int → Prop) [DecidablePred p] (L : List (List Int)) (hL : L.length ≤ 1099511627776) (h : ∀ l ∈ L, C f [ints l, .pim sz es j t] [] (pr (p l)) [] false) :
    C 97 [intss L, .fn (.func f) [] [.pim sz es j t]] [] (i64 (fIx p L)) [] false := by
  refine mkC false false Try.func97 rfl ?_
  refine And.intro nofun ?_
  refine lm ?_
  rotate_left
  refine loop_up (β := Nat) (fun k => [(8, i64 k), (4, .unk)]) (fun k => []) [] (fun k => k ≤ L.length ∧ ∀ l ∈ L.take k, ¬ p l) (fun k => L.length - k) (0) ?_ ?_ ?_
  · simp
  · refine weak.mk [] [] rfl rfl ?_ ?_
    repeat' first | exact trivial | exact rfl | exact Iff.rfl | assumption | refine And.intro ?_ ?_
  · rintro k ⟨hk, hi⟩ R hR
    refine twoP.mk (fun _ => ?_) (fun _ => ?_)
    iterate 2 refine Z ?_
    refine jkm (by omega) ?_
    refine gm (by omega) ?_
    refine callW.mk [] 0 _ _ _ (h L[k] (List.getElem_mem _)) rfl rfl (by repeat' first | exact trivial | assumption | exact knownSS | exact knownApp knownSS knownNil | refine And.intro ?_ ?_) nofun ?_
    refine twoP.mk (fun _ => ?_) (fun _ => ?_)
    rotate_left
    refine nw (by omega) (by omega) ?_
    iterate 2 rotate_left
    · rename_i h2 h3
      refine dv0 rfl ?_
      exact ⟨rfl, (fIx_here (by omega) hi h3).symm⟩
    · rename_i h2 h3
      refine hR (k + 1) _ _ ?_ (weak.mk [] [] rfl rfl ?_ ?_)
      repeat' first | exact trivial | exact rfl | exact Iff.rfl | assumption | refine And.intro ?_ ?_
      exact ⟨⟨by omega, (all_take (by omega)).2 ⟨hi, h3⟩⟩, by omega⟩
    · rename_i h2
      rw [take_all h2] at hi
      refine dv0 rfl ?_
      exact ⟨rfl, (fIx_no hi).symm⟩
theorem szIntS_c (l : List Int) (hl : l.length ≤ 9223372036854775807) (k : Int) (h0 : 0 ≤ k) (hk : k ≤ 1048576) : C 50 [ints l, i64 k] [] (i64 (if k - l.length < 0 then -1 else k - l.length)) [] false := by
  refine mkC false false Try.func50 rfl ?_
  refine And.intro nofun ?_
  refine lm ?_
  refine nw (by omega) (by omega) ?_
  refine twoP.mk (fun _ => ?_) (fun _ => ?_)
  iterate 2 rotate_left
  · rename_i h
    refine dv0 rfl ?_
    exact ⟨rfl, by rw [if_pos h]⟩
  · rename_i h
    refine dv0 rfl ?_
    exact ⟨rfl, by rw [if_neg h]⟩
end Sx
