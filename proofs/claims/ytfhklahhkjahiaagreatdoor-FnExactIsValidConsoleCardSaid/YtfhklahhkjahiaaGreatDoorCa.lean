/- Contracts: numbers, lists, roads. -/
import Derived.Test.YtfhklahhkjahiaaGreatDoorMxA
import Derived.Test.YtfhklahhkjahiaaGreatDoorProg
set_option linter.all false
namespace Sx
open Go Go.Proofs
set_option maxRecDepth 100000
set_option maxHeartbeats 4000000
set_option linter.unusedSimpArgs false
set_option linter.unusedSectionVars false
variable [Glb]
abbrev C (f : FuncId) (args : List AV) (muts : List Ent) (r : AV) (muts' : List Ent) (al : Bool) : Prop := Cf Tryz.prog f args muts (is r muts') al
abbrev CE {α : Type} (f : FuncId) (args : List AV) (muts : List Ent) (p : α → Prop) (rf : α → AV) (mf : α → List Ent) (al : Bool) : Prop := Cf Tryz.prog f args muts (some' p rf mf) al
theorem within_c (a b c : Int) : C 35 [i64 a, i64 b, i64 c] [] (pr (b ≤ a ∧ a ≤ c)) [] false := by
  refine mkC false false Tryz.func35 rfl ?_
  refine And.intro nofun ?_
  refine twoP.mk (fun _ => ?_) (fun _ => ?_)
  iterate 2 rotate_left
  all_goals refine dv0 rfl ?_
  · exact (show _ ↔ _ by omega)
  · exact (show ¬ _ by omega)
theorem in_c (a b c : Int) : C 23 [i64 a, i64 b, i64 c] [] (pr (b ≤ a ∧ a ≤ c)) [] false := by
  refine mkC false false Tryz.func23 rfl ?_
  refine And.intro nofun ?_
  refine twoP.mk (fun _ => ?_) (fun _ => ?_)
  iterate 2 rotate_left
  all_goals refine dv0 rfl ?_
  · exact (show _ ↔ _ by omega)
  · exact (show ¬ _ by omega)
theorem allWithin_c (l : List Int) (hl : l.length ≤ 1099511627776) (b c : Int) : C 65 [ints l, i64 b, i64 c] [] (pr (∀ x ∈ l, b ≤ x ∧ x ≤ c)) [] false := by
  refine mkC false false Tryz.func65 rfl ?_
  refine And.intro nofun ?_
  refine lm ?_
  rotate_left
  refine loop_up (β := Nat) (fun k => [(11, i64 k), (6, .unk)]) (fun k => []) [] (fun k => k ≤ l.length ∧ ∀ x ∈ l.take k, b ≤ x ∧ x ≤ c) (fun k => l.length - k) (0) ?_ ?_ ?_
  · simp
  · refine weak.mk [] [] rfl rfl ?_ ?_
    repeat' first | exact trivial | exact rfl | exact Iff.rfl | assumption | refine And.intro ?_ ?_
  · rintro k ⟨hk, hi⟩ R hR
    refine twoP.mk (fun _ => ?_) (fun _ => ?_)
    iterate 2 refine Z ?_
    refine jkm (by omega) ?_
    refine gm (by omega) ?_
    refine callW.mk [] 0 _ _ _ (within_c _ _ _) rfl rfl trivial nofun ?_
    refine twoN (fun _ => ?_) (fun _ => ?_)
    rotate_left
    refine nw (by omega) (by omega) ?_
    iterate 2 rotate_left
    · rename_i h1 h2
      refine dv0 rfl ?_
      exact fun h => h2 (h _ (List.getElem_mem _))
    · rename_i h1 h2
      refine hR (k + 1) _ _ ?_ (weak.mk [] [] rfl rfl ?_ ?_)
      repeat' first | exact trivial | exact rfl | exact Iff.rfl | assumption | refine And.intro ?_ ?_
      exact ⟨⟨by omega, (all_take (by omega)).2 ⟨hi, h2⟩⟩, by omega⟩
    · rename_i h1
      rw [take_all h1] at hi
      refine dv0 rfl ?_
      exact hi
theorem IsRoad_c (n : Int) (b : Bool) : C 51 [rd n b] [] (pr (road n b)) [] false := by
  refine mkC false false Tryz.func51 rfl ?_
  refine And.intro nofun ?_
  iterate 2 refine Z ?_
  refine callW.mk [] 1 _ _ _ (within_c _ _ _) rfl rfl trivial nofun ?_
  refine twoP.mk (fun _ => ?_) (fun _ => ?_)
  refine Z ?_
  refine twoN (fun _ => ?_) (fun _ => ?_)
  rotate_left
  refine Z ?_
  iterate 2 rotate_left
  all_goals refine dv0 rfl ?_
  · rename_i h1 h2; exact ⟨h1.1, h1.2, fun h => (h2 h).elim⟩
  · rename_i h1 h2; exact ⟨fun h => ⟨h1.1, h1.2, fun _ => h⟩, fun h => h.2.2 (h2)⟩
  · rename_i h1; exact fun h => h1 ⟨h.1, h.2.1⟩
theorem l2Road_c (n : Int) (b : Bool) : C 44 [rd n b] [] (pr (road n b)) [] false := by
  refine mkC false false Tryz.func44 rfl ?_
  refine And.intro nofun ?_
  iterate 2 refine Z ?_
  refine callW.mk [] 1 _ _ _ (in_c _ _ _) rfl rfl trivial nofun ?_
  refine twoP.mk (fun _ => ?_) (fun _ => ?_)
  refine Z ?_
  refine twoN (fun _ => ?_) (fun _ => ?_)
  rotate_left
  refine Z ?_
  iterate 2 rotate_left
  all_goals refine dv0 rfl ?_
  · rename_i h1 h2; exact ⟨h1.1, h1.2, fun h => (h2 h).elim⟩
  · rename_i h1 h2; exact ⟨fun h => ⟨h1.1, h1.2, fun _ => h⟩, fun h => h.2.2 (h2)⟩
  · rename_i h1; exact fun h => h1 ⟨h.1, h.2.1⟩
theorem l2Place_c (n : Int) (b : Bool) (p : Int) : C 42 [rd n b, i64 p] [] (pr (road n b ∧ 0 ≤ p ∧ p < n)) [] false := by
  refine mkC false false Tryz.func42 rfl ?_
  refine And.intro nofun ?_
  refine Z ?_
  refine callW.mk [] 1 _ _ _ (l2Road_c _ _) rfl rfl trivial nofun ?_
  refine twoP.mk (fun _ => ?_) (fun _ => ?_)
  refine Z ?_
  refine nw (by omega) (by omega) ?_
  refine callW.mk [] 1 _ _ _ (in_c _ _ _) rfl rfl trivial nofun ?_
  iterate 2 rotate_left
  all_goals refine dv0 rfl ?_
  · rename_i h1; exact ⟨fun h => ⟨h1, by omega⟩, fun h => by omega⟩
  · rename_i h1; exact fun h => h1 h.1
theorem has_c (n : Int) (b : Bool) (hr : road n b) (l : List Int) (hl : l.length ≤ 1099511627776) : C 52 [rd n b, ints l] [] (pr (∀ x ∈ l, 0 ≤ x ∧ x < n)) [] false := by
  refine mkC false false Tryz.func52 rfl ?_
  refine And.intro nofun ?_
  iterate 2 refine Z ?_
  refine nw (by omega) (by omega) ?_
  refine callW.mk [] 1 _ _ _ (allWithin_c _ (by first | omega | assumption | (simp; omega) | (simp; done)) _ _) rfl rfl trivial nofun ?_
  rotate_left
  all_goals refine dv0 rfl ?_
  exact ⟨fun h x hx => by have := h x hx; omega, fun h x hx => by have := h x hx; omega⟩
theorem Index_c (l : List Int) (hl : l.length ≤ 1099511627776) (x : Int) : C 57 [ints l, i64 x] [] (i64 (ixOf l x)) [] false := by
  refine mkC false false Tryz.func57 rfl ?_
  refine And.intro nofun ?_
  refine lm ?_
  rotate_left
  refine loop_up (β := Nat) (fun k => [(8, i64 k), (4, .unk)]) (fun k => []) [] (fun k => k ≤ l.length ∧ ∀ y ∈ l.take k, y ≠ x) (fun k => l.length - k) (0) ?_ ?_ ?_
  · simp
  · refine weak.mk [] [] rfl rfl ?_ ?_
    repeat' first | exact trivial | exact rfl | exact Iff.rfl | assumption | refine And.intro ?_ ?_
  · rintro k ⟨hk, hi⟩ R hR
    refine twoP.mk (fun _ => ?_) (fun _ => ?_)
    iterate 2 refine Z ?_
    refine jkm (by omega) ?_
    refine gm (by omega) ?_
    refine twoP.mk (fun _ => ?_) (fun _ => ?_)
    rotate_left
    refine nw (by omega) (by omega) ?_
    iterate 2 rotate_left
    · rename_i h1 h2
      refine dv0 rfl ?_
      exact ⟨rfl, (ixOf_here (by omega) hi h2).symm⟩
    · rename_i h1 h2
      refine hR (k + 1) _ _ ?_ (weak.mk [] [] rfl rfl ?_ ?_)
      repeat' first | exact trivial | exact rfl | exact Iff.rfl | assumption | refine And.intro ?_ ?_
      exact ⟨⟨by omega, (all_take (by omega)).2 ⟨hi, fun e => h2 e.symm⟩⟩, by omega⟩
    · rename_i h1
      rw [take_all h1] at hi
      refine dv0 rfl ?_
      exact ⟨rfl, (ixOf_no hi).symm⟩
theorem Contains_c (l : List Int) (hl : l.length ≤ 1099511627776) (x : Int) : C 37 [ints l, i64 x] [] (pr (x ∈ l)) [] false := by
  refine mkC false false Tryz.func37 rfl ?_
  refine And.intro nofun ?_
  refine callW.mk [] 0 _ _ _ (Index_c _ (by first | omega | assumption | (simp; omega) | (simp; done)) _) rfl rfl trivial nofun ?_
  rotate_left
  all_goals refine dv0 rfl ?_
  exact ixOf_ge l x
theorem toRoad_c (n : Int) (b : Bool) : C 27 [rd n b] [] (rd n b) [] false := by
  refine mkC false false Tryz.func27 rfl ?_
  refine And.intro nofun ?_
  iterate 19 refine Z ?_
  rotate_left
  refine dv0 rfl ?_
  exact ⟨⟨rfl, rfl⟩, Iff.rfl, trivial⟩
theorem toIntS_c (l : List Int) (hl : l.length ≤ 1099511627776) : C 28 [ints l] [] (.loc 0) [row l] false := by
  refine mkC false false Tryz.func28 rfl ?_
  refine And.intro nofun ?_
  refine lm ?_
  iterate 2 refine Z ?_
  refine jk (by omega) ?_
  refine ixb (by omega) (by omega) ?_
  iterate 2 refine Z ?_
  refine erep0 ?_
  rotate_left
  refine loop_up (β := Nat) (fun k => [(4, i64 k)]) (fun k => [(0, row (l.take k ++ (List.replicate l.length 0).drop k))]) [] (fun k => k ≤ l.length) (fun k => l.length - k) (0) ?_ ?_ ?_
  · omega
  · refine weak.mk [] [0] rfl rfl ?_ ?_
    repeat' first | exact trivial | exact rfl | exact Iff.rfl | assumption | refine And.intro ?_ ?_
  · rintro k hk R hR
    have hm : (l.take k ++ (List.replicate l.length 0).drop k).length = l.length := by simp; omega
    refine lm ?_
    refine twoP.mk (fun _ => ?_) (fun _ => ?_)
    iterate 2 refine Z ?_
    refine jkm (by omega) ?_
    refine gm (by omega) ?_
    iterate 2 refine Z ?_
    refine jkm (by omega) ?_
    iterate 2 refine Z ?_
    refine gm (by omega) ?_
    refine Z ?_
    refine eset' ?_
    refine nw (by omega) (by omega) ?_
    iterate 2 rotate_left
    · rename_i h1
      refine hR (k + 1) _ _ ?_ (weak.mk [] [0] rfl rfl ?_ ?_)
      repeat' first | exact trivial | exact rfl | exact Iff.rfl | assumption | refine And.intro ?_ ?_
      · exact ⟨by omega, by omega⟩
      · rw [set_at (take_len hk) (by simp; omega), take_snoc (by omega)]
    · rename_i h1
      refine doneV.mk [] [0] rfl rfl ?_ ?_ ?_
      repeat' first | exact trivial | exact rfl | exact Iff.rfl | assumption | exact pureI | refine And.intro ?_ ?_
      rw [take_all h1, List.drop_of_length_le (by simp; omega), List.append_nil]
theorem eqIntS_c (a b : List Int) (hl : a.length ≤ 1099511627776) (hb : b.length ≤ 1099511627776) : C 39 [ints a, ints b] [] (pr (a = b)) [] false := by
  refine mkC false false Tryz.func39 rfl ?_
  refine And.intro nofun ?_
  iterate 2 refine lm ?_
  refine twoN (fun _ => ?_) (fun _ => ?_)
  iterate 2 rotate_left
  · rename_i h1
    refine dv0 rfl ?_
    exact fun h => h1 (by rw [h])
  · rename_i h1
    refine loop_up (β := Nat) (fun k => [(5, i64 k), (4, .unk)]) (fun k => []) [] (fun k => k ≤ a.length ∧ a.take k = b.take k) (fun k => a.length - k) (0) ?_ ?_ ?_
    · simp
    · refine weak.mk [] [] rfl rfl ?_ ?_
      repeat' first | exact trivial | exact rfl | exact Iff.rfl | assumption | refine And.intro ?_ ?_
    · rintro k ⟨hk, hi⟩ R hR
      refine lm ?_
      refine twoP.mk (fun _ => ?_) (fun _ => ?_)
      refine drawP.mk 9 (Z (Z (Z (Z ?_))))
      apply exP.mk
      exact rfl
      apply exP.mk
      exact rfl
      apply exP.mk
      iterate 2 refine Z ?_
      refine jkm (by omega) ?_
      exact rfl
      apply exP.mk
      refine gm (by omega) ?_
      exact rfl
      apply exP.mk
      exact rfl
      apply exP.mk
      exact rfl
      apply exP.mk
      iterate 2 refine Z ?_
      refine jkm (by omega) ?_
      exact rfl
      apply exP.mk
      refine gm (by omega) ?_
      exact rfl
      apply exP.mk
      exact rfl
      refine twoN (fun _ => ?_) (fun _ => ?_)
      rotate_left
      refine nw (by omega) (by omega) ?_
      iterate 2 rotate_left
      · rename_i h2 h3
        refine dv0 rfl ?_
        exact fun h => h3 (by subst h; rfl)
      · rename_i h2 h3
        refine hR (k + 1) _ _ ?_ (weak.mk [] [] rfl rfl ?_ ?_)
        repeat' first | exact trivial | exact rfl | exact Iff.rfl | assumption | refine And.intro ?_ ?_
        exact ⟨⟨by omega, (eq_take (by omega) (by omega)).2 ⟨hi, h3⟩⟩, by omega⟩
      · rename_i h2
        rw [take_all h2, take_all (by omega)] at hi
        refine dv0 rfl ?_
        exact hi
end Sx
