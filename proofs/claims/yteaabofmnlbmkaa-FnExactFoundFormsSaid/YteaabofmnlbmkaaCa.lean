/- Contracts: numbers, lists, roads. -/
import Derived.Test.YteaabofmnlbmkaaMxA
import Derived.Test.YteaabofmnlbmkaaProg
set_option linter.all false
namespace Sx
open Go Go.Proofs
set_option maxRecDepth 100000
set_option maxHeartbeats 4000000
set_option linter.unusedSimpArgs false
set_option linter.unusedSectionVars false
variable [Glb]
abbrev C (f : FuncId) (args : List AV) (muts : List Ent) (r : AV) (muts' : List Ent) (al : Bool) : Prop := Cf Try.prog f args muts (is r muts') al
abbrev CE {α : Type} (f : FuncId) (args : List AV) (muts : List Ent) (p : α → Prop) (rf : α → AV) (mf : α → List Ent) (al : Bool) : Prop := Cf Try.prog f args muts (some' p rf mf) al
theorem within_c (a b c : Int) : C 69 [i64 a, i64 b, i64 c] [] (pr (b ≤ a ∧ a ≤ c)) [] false := by
  refine mkC false false Try.func69 rfl ?_
  refine And.intro nofun ?_
  refine twoP.mk (fun _ => ?_) (fun _ => ?_)
  iterate 2 rotate_left
  all_goals refine dv0 rfl ?_
  · exact (show _ ↔ _ by omega)
  · exact (show ¬ _ by omega)
theorem in_c (a b c : Int) : C 67 [i64 a, i64 b, i64 c] [] (pr (b ≤ a ∧ a ≤ c)) [] false := by
  refine mkC false false Try.func67 rfl ?_
  refine And.intro nofun ?_
  refine twoP.mk (fun _ => ?_) (fun _ => ?_)
  iterate 2 rotate_left
  all_goals refine dv0 rfl ?_
  · exact (show _ ↔ _ by omega)
  · exact (show ¬ _ by omega)
theorem allWithin_c (l : List Int) (hl : l.length ≤ 1099511627776) (b c : Int) : C 102 [ints l, i64 b, i64 c] [] (pr (∀ x ∈ l, b ≤ x ∧ x ≤ c)) [] false := by
  refine mkC false false Try.func102 rfl ?_
  refine And.intro nofun ?_
  refine lm ?_
  rotate_left
  refine loop_up (β := Nat) (fun k => [(11, i64 k), (6, .unk)]) (fun k => []) [] (fun k => k ≤ l.length ∧ ∀ x ∈ l.take k, b ≤ x ∧ x ≤ c) (fun k => l.length - k) (0) ?_ ?_ ?_
  · simp
  · refine weak.mk [] [] rfl rfl ?_ ?_
    repeat' first | exact trivial | exact rfl | exact Iff.rfl | assumption | refine And.intro ?_ ?_
  · rintro k ⟨hk, hi⟩ R hR
    refine twoP.mk (fun _ => ?_) (fun _ => ?_)
    iterate 2 refine Z ?_
    refine jkm (by omega) ?_
    refine gm (by omega) ?_
    refine callW.mk [] 0 _ _ _ (within_c _ _ _) rfl rfl trivial nofun ?_
    refine twoN (fun _ => ?_) (fun _ => ?_)
    rotate_left
    refine nw (by omega) (by omega) ?_
    iterate 2 rotate_left
    · rename_i h1 h2
      refine dv0 rfl ?_
      exact fun h => h2 (h _ (List.getElem_mem _))
    · rename_i h1 h2
      refine hR (k + 1) _ _ ?_ (weak.mk [] [] rfl rfl ?_ ?_)
      repeat' first | exact trivial | exact rfl | exact Iff.rfl | assumption | refine And.intro ?_ ?_
      exact ⟨⟨by omega, (all_take (by omega)).2 ⟨hi, h2⟩⟩, by omega⟩
    · rename_i h1
      rw [take_all h1] at hi
      refine dv0 rfl ?_
      exact hi
theorem Index_c (l : List Int) (hl : l.length ≤ 1099511627776) (x : Int) : C 99 [ints l, i64 x] [] (i64 (ixOf l x)) [] false := by
  refine mkC false false Try.func99 rfl ?_
  refine And.intro nofun ?_
  refine lm ?_
  rotate_left
  refine loop_up (β := Nat) (fun k => [(8, i64 k), (4, .unk)]) (fun k => []) [] (fun k => k ≤ l.length ∧ ∀ y ∈ l.take k, y ≠ x) (fun k => l.length - k) (0) ?_ ?_ ?_
  · simp
  · refine weak.mk [] [] rfl rfl ?_ ?_
    repeat' first | exact trivial | exact rfl | exact Iff.rfl | assumption | refine And.intro ?_ ?_
  · rintro k ⟨hk, hi⟩ R hR
    refine twoP.mk (fun _ => ?_) (fun _ => ?_)
    iterate 2 refine Z ?_
    refine jkm (by omega) ?_
    refine gm (by omega) ?_
    refine twoP.mk (fun _ => ?_) (fun _ => ?_)
    rotate_left
    refine nw (by omega) (by omega) ?_
    iterate 2 rotate_left
    · rename_i h1 h2
      refine dv0 rfl ?_
      exact ⟨rfl, (ixOf_here (by omega) hi h2).symm⟩
    · rename_i h1 h2
      refine hR (k + 1) _ _ ?_ (weak.mk [] [] rfl rfl ?_ ?_)
      repeat' first | exact trivial | exact rfl | exact Iff.rfl | assumption | refine And.intro ?_ ?_
      exact ⟨⟨by omega, (all_take (by omega)).2 ⟨hi, fun e => h2 e.symm⟩⟩, by omega⟩
    · rename_i h1
      rw [take_all h1] at hi
      refine dv0 rfl ?_
      exact ⟨rfl, (ixOf_no hi).symm⟩
theorem Contains_c (l : List Int) (hl : l.length ≤ 1099511627776) (x : Int) : C 100 [ints l, i64 x] [] (pr (x ∈ l)) [] false := by
  refine mkC false false Try.func100 rfl ?_
  refine And.intro nofun ?_
  refine callW.mk [] 0 _ _ _ (Index_c _ (by first | omega | assumption | (simp; omega) | (simp; done)) _) rfl rfl trivial nofun ?_
  rotate_left
  all_goals refine dv0 rfl ?_
  exact ixOf_ge l x
theorem toIntS_c (l : List Int) (hl : l.length ≤ 1099511627776) : C 28 [ints l] [] (.loc 0) [row l] false := by
  refine mkC false false Try.func28 rfl ?_
  refine And.intro nofun ?_
  refine lm ?_
  iterate 2 refine Z ?_
  refine jk (by omega) ?_
  refine ixb (by omega) (by omega) ?_
  iterate 2 refine Z ?_
  refine erep0 ?_
  rotate_left
  refine loop_up (β := Nat) (fun k => [(4, i64 k)]) (fun k => [(0, row (l.take k ++ (List.replicate l.length 0).drop k))]) [] (fun k => k ≤ l.length) (fun k => l.length - k) (0) ?_ ?_ ?_
  · omega
  · refine weak.mk [] [0] rfl rfl ?_ ?_
    repeat' first | exact trivial | exact rfl | exact Iff.rfl | assumption | refine And.intro ?_ ?_
  · rintro k hk R hR
    have hm : (l.take k ++ (List.replicate l.length 0).drop k).length = l.length := by simp; omega
    refine lm ?_
    refine twoP.mk (fun _ => ?_) (fun _ => ?_)
    iterate 2 refine Z ?_
    refine jkm (by omega) ?_
    refine gm (by omega) ?_
    iterate 2 refine Z ?_
    refine jkm (by omega) ?_
    iterate 2 refine Z ?_
    refine gm (by omega) ?_
    refine Z ?_
    refine eset' ?_
    refine nw (by omega) (by omega) ?_
    iterate 2 rotate_left
    · rename_i h1
      refine hR (k + 1) _ _ ?_ (weak.mk [] [0] rfl rfl ?_ ?_)
      repeat' first | exact trivial | exact rfl | exact Iff.rfl | assumption | refine And.intro ?_ ?_
      · exact ⟨by omega, by omega⟩
      · rw [set_at (take_len hk) (by simp; omega), take_snoc (by omega)]
    · rename_i h1
      refine doneV.mk [] [0] rfl rfl ?_ ?_ ?_
      repeat' first | exact trivial | exact rfl | exact Iff.rfl | assumption | exact pureI | refine And.intro ?_ ?_
      rw [take_all h1, List.drop_of_length_le (by simp; omega), List.append_nil]
theorem eqIntS_c (a b : List Int) (hl : a.length ≤ 1099511627776) (hb : b.length ≤ 1099511627776) : C 20 [ints a, ints b] [] (pr (a = b)) [] false := by
  refine mkC false false Try.func20 rfl ?_
  refine And.intro nofun ?_
  iterate 2 refine lm ?_
  refine twoN (fun _ => ?_) (fun _ => ?_)
  iterate 2 rotate_left
  · rename_i h1
    refine dv0 rfl ?_
    exact fun h => h1 (by rw [h])
  · rename_i h1
    refine loop_up (β := Nat) (fun k => [(5, i64 k), (4, .unk)]) (fun k => []) [] (fun k => k ≤ a.length ∧ a.take k = b.take k) (fun k => a.length - k) (0) ?_ ?_ ?_
    · simp
    · refine weak.mk [] [] rfl rfl ?_ ?_
      repeat' first | exact trivial | exact rfl | exact Iff.rfl | assumption | refine And.intro ?_ ?_
    · rintro k ⟨hk, hi⟩ R hR
      refine lm ?_
      refine twoP.mk (fun _ => ?_) (fun _ => ?_)
      refine drawP.mk 9 (Z (Z (Z (Z ?_))))
      apply exP.mk
      exact rfl
      apply exP.mk
      exact rfl
      apply exP.mk
      iterate 2 refine Z ?_
      refine jkm (by omega) ?_
      exact rfl
      apply exP.mk
      refine gm (by omega) ?_
      exact rfl
      apply exP.mk
      exact rfl
      apply exP.mk
      exact rfl
      apply exP.mk
      iterate 2 refine Z ?_
      refine jkm (by omega) ?_
      exact rfl
      apply exP.mk
      refine gm (by omega) ?_
      exact rfl
      apply exP.mk
      exact rfl
      refine twoN (fun _ => ?_) (fun _ => ?_)
      rotate_left
      refine nw (by omega) (by omega) ?_
      iterate 2 rotate_left
      · rename_i h2 h3
        refine dv0 rfl ?_
        exact fun h => h3 (by subst h; rfl)
      · rename_i h2 h3
        refine hR (k + 1) _ _ ?_ (weak.mk [] [] rfl rfl ?_ ?_)
        repeat' first | exact trivial | exact rfl | exact Iff.rfl | assumption | refine And.intro ?_ ?_
        exact ⟨⟨by omega, (eq_take (by omega) (by omega)).2 ⟨hi, h3⟩⟩, by omega⟩
      · rename_i h2
        rw [take_all h2, take_all (by omega)] at hi
        refine dv0 rfl ?_
        exact hi
theorem markIntS_c (l : List Int) (hl : l.length ≤ 1099511627776) (k : Int) (h0 : 0 ≤ k) (hk : k ≤ 4611686018427387904) : C 21 [.loc 0, i64 k] [row l] (i64 (k + l.length)) [row (marks k l.length)] false := by
  refine mkC false false Try.func21 rfl ?_
  refine And.intro nofun ?_
  rotate_left
  refine loop_up (β := Nat) (fun j => [(5, i64 j), (1, i64 (k + j))]) (fun j => [(0, row (marks k j ++ l.drop j))]) [] (fun j => j ≤ l.length) (fun j => l.length - j) (0) ?_ ?_ ?_
  · omega
  · refine weak.mk [] [0] rfl rfl ?_ ?_
    repeat' first | exact trivial | exact rfl | exact Iff.rfl | assumption | refine And.intro ?_ ?_
    omega
  · rintro j hj R hR
    have hm : (marks k j ++ l.drop j).length = l.length := by simp [marks_len]; omega
    refine lm ?_
    refine twoP.mk (fun _ => ?_) (fun _ => ?_)
    iterate 2 refine Z ?_
    refine jkm (by omega) ?_
    iterate 2 refine Z ?_
    refine gm (by omega) ?_
    refine Z ?_
    refine eset' ?_
    iterate 2 refine nw (by omega) (by omega) ?_
    iterate 2 rotate_left
    · rename_i h1
      refine hR (j + 1) _ _ ?_ (weak.mk [] [0] rfl rfl ?_ ?_)
      repeat' first | exact trivial | exact rfl | exact Iff.rfl | assumption | refine And.intro ?_ ?_
      · exact ⟨by omega, by omega⟩
      · omega
      · rw [set_at (marks_len k j) (by omega), marks_succ]
    · rename_i h1
      have e : j = l.length := by omega
      subst e
      refine doneV.mk [] [0] rfl rfl ?_ ?_ ?_
      repeat' first | exact trivial | exact rfl | exact Iff.rfl | assumption | exact pureI | refine And.intro ?_ ?_
      rw [List.drop_length, List.append_nil]
theorem heldIntS_c (n : Nat) (hl : n ≤ 1099511627776) (k : Int) (h0 : 0 ≤ k) (hk : k ≤ 4611686018427387904) : C 22 [ints (marks k n), i64 k] [] (i64 (k + n)) [] false := by
  refine mkC false false Try.func22 rfl ?_
  refine And.intro nofun ?_
  have hm := marks_len k n
  rotate_left
  refine loop_up (β := Nat) (fun j => [(5, i64 j), (1, i64 (k + j)), (4, .unk)]) (fun j => []) [] (fun j => j ≤ n) (fun j => n - j) (0) ?_ ?_ ?_
  · omega
  · refine weak.mk [] [] rfl rfl ?_ ?_
    repeat' first | exact trivial | exact rfl | exact Iff.rfl | assumption | refine And.intro ?_ ?_
    omega
  · rintro j hj R hR
    refine lm ?_
    refine twoP.mk (fun _ => ?_) (fun _ => ?_)
    iterate 2 refine Z ?_
    refine jkm (by omega) ?_
    refine gm (by omega) ?_
    refine twoN (fun _ => ?_) (fun _ => ?_)
    rotate_left
    iterate 2 refine nw (by omega) (by omega) ?_
    iterate 2 rotate_left
    · rename_i h1 h2
      exact (h2 (marks_get _)).elim
    · rename_i h1 h2
      refine hR (j + 1) _ _ ?_ (weak.mk [] [] rfl rfl ?_ ?_)
      repeat' first | exact trivial | exact rfl | exact Iff.rfl | assumption | refine And.intro ?_ ?_
      · exact ⟨by omega, by omega⟩
      · omega
    · rename_i h1
      have e : j = n := by omega
      subst e
      refine dv0 rfl ?_
      exact ⟨rfl, rfl⟩
end Sx
