/- Contracts: the end of a chase. -/
import Derived.Test.YtbgamclegbaalaaCg
import Derived.Test.YtbgamclegbaalaaMxH
set_option linter.all false
namespace Sx
open Go Go.Proofs
set_option maxRecDepth 100000
set_option maxHeartbeats 4000000
set_option linter.unusedSimpArgs false
theorem isClean_c (d : List Int) (hd : d.length ≤ 1099511627776) : C 98 [ints d] [] (pr (¬ (1 : Int) ∈ d)) [] false := by
  refine mkC false false Try.func98 rfl ?_
  refine And.intro nofun ?_
  refine callW.mk [] 0 _ _ _ (Contains_c _ (by first | omega | assumption | (simp; omega) | (simp; done)) _) rfl rfl trivial nofun ?_
  rotate_left
  refine dv0 rfl ?_
  exact Iff.rfl
theorem found_c (t : Int) : C 95 [i64 t] [] (.tuple [i64 (max 0 t), pr (0 ≤ t)]) [] false := by
  refine mkC false false Try.func95 rfl ?_
  refine And.intro nofun ?_
  refine nr ?_
  rotate_left
  refine dv0 rfl ?_
  exact ⟨⟨rfl, rfl⟩, Iff.rfl, trivial⟩
theorem IndexFuncSS_c0 {f : Nat} (p : List Int → Prop) [DecidablePred p] (L : List (List Int)) (hL : L.length ≤ 1099511627776) (h : ∀ l ∈ L, C f [ints l] [] (pr (p l)) [] false) :
    C 96 [intss L, .fn (.func f) [] []] [] (i64 (fIx p L)) [] false := by
  refine mkC false false Try.func96 rfl ?_
  refine And.intro nofun ?_
  refine lm ?_
  rotate_left
  refine loop_up (β := Nat) (fun k => [(8, i64 k), (4, .unk)]) (fun k => []) [] (fun k => k ≤ L.length ∧ ∀ l ∈ L.take k, ¬ p l) (fun k => L.length - k) (0) ?_ ?_ ?_
  · simp
  · refine weak.mk [] [] rfl rfl ?_ ?_
    repeat' first | exact trivial | exact rfl | exact Iff.rfl | assumption | exact pureI | exact (show _ = _ by omega) | exact (show _ ≤ _ by omega) | exact (show _ < _ by omega) | exact (show ¬ _ by omega) | refine And.intro ?_ ?_
  · rintro k ⟨hk, hi⟩ R hR
    refine twoP.mk (fun _ => ?_) (fun _ => ?_)
    iterate 2 refine Z ?_
    refine jkm (by omega) ?_
    refine gm (by omega) ?_
    refine callW.mk [] 0 _ _ _ (h L[k] (List.getElem_mem _)) rfl rfl (by repeat' first | exact trivial | assumption | exact knownSS | exact knownApp knownSS knownNil | refine And.intro ?_ ?_) nofun ?_
    refine twoP.mk (fun _ => ?_) (fun _ => ?_)
    rotate_left
    refine nw (by omega) (by omega) ?_
    iterate 2 rotate_left
    · rename_i h2 h3
      refine dv0 rfl ?_
      exact ⟨rfl, (fIx_here (by omega) hi h3).symm⟩
    · rename_i h2 h3
      refine hR (k + 1) _ _ ?_ ?_
      rotate_left
      refine weak.mk [] [] rfl rfl ?_ ?_
      repeat' first | exact trivial | exact rfl | exact Iff.rfl | assumption | exact pureI | exact (show _ = _ by omega) | exact (show _ ≤ _ by omega) | exact (show _ < _ by omega) | exact (show ¬ _ by omega) | refine And.intro ?_ ?_
      rotate_right
      exact ⟨⟨by omega, (all_take (by omega)).2 ⟨hi, h3⟩⟩, by omega⟩
    · rename_i h2
      rw [take_all h2] at hi
      refine dv0 rfl ?_
      exact ⟨rfl, (fIx_no hi).symm⟩
theorem ChaseEnd_c (n : Int) (b : Bool) (L : List (List Int)) (hL : L.length ≤ 1099511627775) (hl : ∀ l ∈ L, l.length ≤ 1099511627776) : C 42 [rd n b, intss L] [] (.tuple [i64 (max 0 (chaseE n b L)), pr (0 ≤ chaseE n b L)]) [] false := by
  refine mkC false false Try.func42 rfl ?_
  refine And.intro nofun ?_
  by_cases hc : chasers n b L
  · have hr := hc.1
    have hw : lenOk L := chasers_len hc
    have hd := dirts_len n b L 61
    have hx : ∀ d ∈ dirts n b L 61, d.length ≤ 1099511627776 := fun d hd => by have := (dirts_bits (by omega) d hd).2; omega
    refine Z ?_
    refine callW.mk [] 1 _ _ _ (areChasers_c _ _ _ (by first | omega | assumption | (simp; omega) | (simp; done) | exact hl _ (List.getElem_mem _) | exact hx _ (List.getElem_mem _)) (by first | omega | assumption | (simp; omega) | (simp; done) | exact hl _ (List.getElem_mem _) | exact hx _ (List.getElem_mem _))) rfl rfl trivial nofun ?_
    refine tN (by first | omega | assumption | exact fun h => h (by assumption) | exact fun h => h rfl | exact fun h => h Iff.rfl) ?_
    refine callW.mk [] 1 _ _ _ (dirtyLists_c _ _ (by first | omega | assumption | (simp; omega) | (simp; done) | exact hl _ (List.getElem_mem _) | exact hx _ (List.getElem_mem _)) _ (by first | omega | assumption | (simp; omega) | (simp; done) | exact hl _ (List.getElem_mem _) | exact hx _ (List.getElem_mem _)) (by first | omega | assumption | (simp; omega) | (simp; done) | exact hl _ (List.getElem_mem _) | exact hx _ (List.getElem_mem _)) _ (by first | omega | assumption | (simp; omega) | (simp; done) | exact hl _ (List.getElem_mem _) | exact hx _ (List.getElem_mem _))) rfl rfl trivial nofun ?_
    refine callW.mk [] 2 _ _ _ (IndexFuncSS_c0 (fun d => ¬ (1 : Int) ∈ d) (dirts n b L 61) (by omega) (fun l h => isClean_c l (hx l h))) rfl rfl (by repeat' first | exact trivial | assumption | exact knownSS | exact knownApp knownSS knownNil | refine And.intro ?_ ?_) nofun ?_
    refine callW.mk [] 2 _ _ _ (found_c _) rfl rfl (by repeat' first | exact trivial | assumption | exact knownSS | exact knownApp knownSS knownNil | refine And.intro ?_ ?_) nofun ?_
    rotate_left
    rw [chaseE_yes hc]
    refine doneV.mk [] [] rfl rfl ?_ ?_ ?_
    repeat' first | exact trivial | exact rfl | exact Iff.rfl | assumption | exact pureI | exact (show _ = _ by omega) | exact (show _ ≤ _ by omega) | exact (show _ < _ by omega) | exact (show ¬ _ by omega) | refine And.intro ?_ ?_
  · refine Z ?_
    refine callW.mk [] 1 _ _ _ (areChasers_c _ _ _ (by first | omega | assumption | (simp; omega) | (simp; done) | exact hl _ (List.getElem_mem _)) (by first | omega | assumption | (simp; omega) | (simp; done) | exact hl _ (List.getElem_mem _))) rfl rfl trivial nofun ?_
    refine tY (by first | omega | assumption | exact rfl | exact Iff.rfl) ?_
    rotate_left
    rw [chaseE_no hc]
    refine doneV.mk [] [] rfl rfl ?_ ?_ ?_
    repeat' first | exact trivial | exact rfl | exact Iff.rfl | assumption | exact pureI | exact (show _ = _ by omega) | exact (show _ ≤ _ by omega) | exact (show _ < _ by omega) | exact (show ¬ _ by omega) | refine And.intro ?_ ?_
theorem sChaseEnd_c (n : Int) (b : Bool) (L : List (List Int)) (hL : L.length ≤ 1099511627775) (hl : ∀ l ∈ L, l.length ≤ 1099511627776) : C 41 [rd n b, intss L] [] (.tuple [i64 (max 0 (chaseE n b L)), pr (0 ≤ chaseE n b L)]) [] false := by
  refine mkC false false Try.func41 rfl ?_
  refine And.intro nofun ?_
  by_cases hc : chasers n b L
  · have hr := hc.1
    have hw : lenOk L := chasers_len hc
    have hd := dirts_len n b L 61
    have hx : ∀ d ∈ dirts n b L 61, d.length ≤ 1099511627776 := fun d hd => by have := (dirts_bits (by omega) d hd).2; omega
    rw [chaseE_yes hc]
    refine Z ?_
    refine callW.mk [] 1 _ _ _ (l11Chasers_c _ _ _ (by first | omega | assumption | (simp; omega) | (simp; done) | exact hl _ (List.getElem_mem _) | exact hx _ (List.getElem_mem _)) (by first | omega | assumption | (simp; omega) | (simp; done) | exact hl _ (List.getElem_mem _) | exact hx _ (List.getElem_mem _))) rfl rfl trivial nofun ?_
    refine tN (by first | omega | assumption | exact fun h => h (by assumption) | exact fun h => h rfl | exact fun h => h Iff.rfl) ?_
    refine callW.mk [] 1 _ _ _ (l11Dirty_c _ _ (by first | omega | assumption | (simp; omega) | (simp; done) | exact hl _ (List.getElem_mem _) | exact hx _ (List.getElem_mem _)) _ (by first | omega | assumption | (simp; omega) | (simp; done) | exact hl _ (List.getElem_mem _) | exact hx _ (List.getElem_mem _)) (by first | omega | assumption | (simp; omega) | (simp; done) | exact hl _ (List.getElem_mem _) | exact hx _ (List.getElem_mem _)) _ (by first | omega | assumption | (simp; omega) | (simp; done) | exact hl _ (List.getElem_mem _) | exact hx _ (List.getElem_mem _))) rfl rfl trivial nofun ?_
    rotate_left
    refine loop_up (β := Nat) (fun k => [(7, i64 k), (4, .unk), (5, .unk)]) (fun k => []) [] (fun k => k ≤ 61 ∧ ∀ d ∈ (dirts n b L 61).take k, ¬ ¬ (1 : Int) ∈ d) (fun k => 61 - k) (0) ?_ ?_ ?_
    · simp
    · refine weak.mk [] [0, 1] rfl rfl ?_ ?_
      repeat' first | exact trivial | exact rfl | exact Iff.rfl | assumption | exact pureI | exact (show _ = _ by omega) | exact (show _ ≤ _ by omega) | exact (show _ < _ by omega) | exact (show ¬ _ by omega) | refine And.intro ?_ ?_
    · rintro k ⟨hk, hi⟩ R hR
      refine lm ?_
      refine twoP.mk (fun _ => ?_) (fun _ => ?_)
      iterate 2 refine Z ?_
      refine jkm (by omega) ?_
      refine gm (by omega) ?_
      refine callW.mkT [(0, _)] [] (And.intro (atS (by omega) rfl rfl rfl) (trivial)) 2 _ _ _ (l1Has_c _ (by first | omega | assumption | (simp; omega) | (simp; done) | exact hl _ (List.getElem_mem _) | exact hx _ (List.getElem_mem _) | exact hi _ (List.getElem_mem _)) _) rfl rfl (by repeat' first | exact trivial | assumption | exact knownSS | exact knownApp knownSS knownNil | refine And.intro ?_ ?_) nofun ?_
      refine twoN (fun _ => ?_) (fun _ => ?_)
      rotate_left
      refine nw (by omega) (by omega) ?_
      iterate 2 rotate_left
      · rename_i h1 h2
        have h1 : (k : Int) < ((dirts n b L 61).length : Int) := h1
        have e : fIx (fun d => ¬ (1 : Int) ∈ d) (dirts n b L 61) = k := fIx_here (by omega) hi h2
        rw [e]
        refine doneV.mk [] [] rfl rfl ?_ ?_ ?_
        repeat' first | exact trivial | exact rfl | exact Iff.rfl | assumption | exact pureI | exact (show _ = _ by omega) | exact (show _ ≤ _ by omega) | exact (show _ < _ by omega) | exact (show ¬ _ by omega) | refine And.intro ?_ ?_
      · rename_i h1 h2
        have h1 : (k : Int) < ((dirts n b L 61).length : Int) := h1
        refine hR (k + 1) _ _ ?_ ?_
        rotate_left
        refine weak.mk [] [0, 1] rfl rfl ?_ ?_
        repeat' first | exact trivial | exact rfl | exact Iff.rfl | assumption | exact pureI | exact (show _ = _ by omega) | exact (show _ ≤ _ by omega) | exact (show _ < _ by omega) | exact (show ¬ _ by omega) | refine And.intro ?_ ?_
        rotate_right
        exact ⟨⟨by omega, (all_take (by omega)).2 ⟨hi, fun h => h h2⟩⟩, by omega⟩
      · rename_i h1
        have h1 : ¬ (k : Int) < ((dirts n b L 61).length : Int) := h1
        rw [take_all h1] at hi
        rw [fIx_no hi]
        refine doneV.mk [] [] rfl rfl ?_ ?_ ?_
        repeat' first | exact trivial | exact rfl | exact Iff.rfl | assumption | exact pureI | exact (show _ = _ by omega) | exact (show _ ≤ _ by omega) | exact (show _ < _ by omega) | exact (show ¬ _ by omega) | refine And.intro ?_ ?_
  · refine Z ?_
    refine callW.mk [] 1 _ _ _ (l11Chasers_c _ _ _ (by first | omega | assumption | (simp; omega) | (simp; done) | exact hl _ (List.getElem_mem _)) (by first | omega | assumption | (simp; omega) | (simp; done) | exact hl _ (List.getElem_mem _))) rfl rfl trivial nofun ?_
    refine tY (by first | omega | assumption | exact rfl | exact Iff.rfl) ?_
    rotate_left
    rw [chaseE_no hc]
    refine doneV.mk [] [] rfl rfl ?_ ?_ ?_
    repeat' first | exact trivial | exact rfl | exact Iff.rfl | assumption | exact pureI | exact (show _ = _ by omega) | exact (show _ ≤ _ by omega) | exact (show _ < _ by omega) | exact (show ¬ _ by omega) | refine And.intro ?_ ?_
theorem FnExactChaseEnd_c (n : Int) (b : Bool) (L : List (List Int)) (hL : L.length ≤ 9223372036854775807) (hl : ∀ l ∈ L, l.length ≤ 9223372036854775807) : C 10 [rd n b, intss L] [] .tt [] false := by
  refine mkC false false Try.func10 rfl ?_
  refine And.intro nofun ?_
  by_cases hs : szSS L 1048576 < 0
  · refine Z ?_
    refine callW.mk [] 1 _ _ _ (szIntSS_c _ (by first | omega | assumption | (simp; omega) | (simp; done) | exact hl _ (List.getElem_mem _)) (by first | omega | assumption | (simp; omega) | (simp; done) | exact hl _ (List.getElem_mem _)) _ (by first | omega | assumption | (simp; omega) | (simp; done) | exact hl _ (List.getElem_mem _)) (by first | omega | assumption | (simp; omega) | (simp; done) | exact hl _ (List.getElem_mem _))) rfl rfl trivial nofun ?_
    refine tY (by first | omega | assumption | exact rfl | exact Iff.rfl) ?_
    rotate_left
    all_goals exact dv0 rfl trivial
  · obtain ⟨h1, h2⟩ := szSS_ok hs
    have h3 : ∀ l ∈ L, l.length ≤ 1099511627776 := fun l h => by have := h2 l h; omega
    refine Z ?_
    refine callW.mk [] 1 _ _ _ (szIntSS_c _ (by first | omega | assumption | (simp; omega) | (simp; done) | exact hl _ (List.getElem_mem _) | exact h2 _ (List.getElem_mem _) | exact h3 _ (List.getElem_mem _)) (by first | omega | assumption | (simp; omega) | (simp; done) | exact hl _ (List.getElem_mem _) | exact h2 _ (List.getElem_mem _) | exact h3 _ (List.getElem_mem _)) _ (by first | omega | assumption | (simp; omega) | (simp; done) | exact hl _ (List.getElem_mem _) | exact h2 _ (List.getElem_mem _) | exact h3 _ (List.getElem_mem _)) (by first | omega | assumption | (simp; omega) | (simp; done) | exact hl _ (List.getElem_mem _) | exact h2 _ (List.getElem_mem _) | exact h3 _ (List.getElem_mem _))) rfl rfl trivial nofun ?_
    refine tN (by first | omega | assumption | exact fun h => h (by assumption) | exact fun h => h rfl | exact fun h => h Iff.rfl) ?_
    refine callW.mk [] 1 _ _ _ (toRoad_c _ _) rfl rfl trivial nofun ?_
    refine callW.mk [] 1 _ _ _ (toIntSS_c _ (by first | omega | assumption | (simp; omega) | (simp; done) | exact hl _ (List.getElem_mem _) | exact h2 _ (List.getElem_mem _) | exact h3 _ (List.getElem_mem _)) (by first | omega | assumption | (simp; omega) | (simp; done) | exact hl _ (List.getElem_mem _) | exact h2 _ (List.getElem_mem _) | exact h3 _ (List.getElem_mem _))) rfl rfl trivial nofun ?_
    refine callW.mk [] 2 _ _ _ (sChaseEnd_c _ _ _ (by first | omega | assumption | (simp; omega) | (simp; done) | exact hl _ (List.getElem_mem _) | exact h2 _ (List.getElem_mem _) | exact h3 _ (List.getElem_mem _)) (by first | omega | assumption | (simp; omega) | (simp; done) | exact hl _ (List.getElem_mem _) | exact h2 _ (List.getElem_mem _) | exact h3 _ (List.getElem_mem _))) rfl rfl (by repeat' first | exact trivial | assumption | exact knownSS | exact knownApp knownSS knownNil | refine And.intro ?_ ?_) nofun ?_
    refine callW.mk [] 2 _ _ _ (toIntSS_c _ (by first | omega | assumption | (simp; omega) | (simp; done) | exact hl _ (List.getElem_mem _) | exact h2 _ (List.getElem_mem _) | exact h3 _ (List.getElem_mem _)) (by first | omega | assumption | (simp; omega) | (simp; done) | exact hl _ (List.getElem_mem _) | exact h2 _ (List.getElem_mem _) | exact h3 _ (List.getElem_mem _))) rfl rfl (by repeat' first | exact trivial | assumption | exact knownSS | exact knownApp knownSS knownNil | refine And.intro ?_ ?_) nofun ?_
    refine callW.mk [] 3 _ _ _ (toRoad_c _ _) rfl rfl (by repeat' first | exact trivial | assumption | exact knownSS | exact knownApp knownSS knownNil | refine And.intro ?_ ?_) nofun ?_
    refine callW.mk [] 3 _ _ _ (ChaseEnd_c _ _ _ (by first | omega | assumption | (simp; omega) | (simp; done) | exact hl _ (List.getElem_mem _) | exact h2 _ (List.getElem_mem _) | exact h3 _ (List.getElem_mem _)) (by first | omega | assumption | (simp; omega) | (simp; done) | exact hl _ (List.getElem_mem _) | exact h2 _ (List.getElem_mem _) | exact h3 _ (List.getElem_mem _))) rfl rfl (by repeat' first | exact trivial | assumption | exact knownSS | exact knownApp knownSS knownNil | refine And.intro ?_ ?_) nofun ?_
    iterate 2 refine tN (by first | omega | assumption | exact fun h => h (by assumption) | exact fun h => h rfl | exact fun h => h Iff.rfl) ?_
    refine callW.mk [] 3 _ _ _ (toIntSS_c _ (by first | omega | assumption | (simp; omega) | (simp; done) | exact hl _ (List.getElem_mem _) | exact h2 _ (List.getElem_mem _) | exact h3 _ (List.getElem_mem _)) (by first | omega | assumption | (simp; omega) | (simp; done) | exact hl _ (List.getElem_mem _) | exact h2 _ (List.getElem_mem _) | exact h3 _ (List.getElem_mem _))) rfl rfl (by repeat' first | exact trivial | assumption | exact knownSS | exact knownApp knownSS knownNil | refine And.intro ?_ ?_) nofun ?_
    refine callW.mk [] 4 _ _ _ (eqIntSS_c _ _ (by first | omega | assumption | (simp; omega) | (simp; done) | exact hl _ (List.getElem_mem _) | exact h2 _ (List.getElem_mem _) | exact h3 _ (List.getElem_mem _)) (by first | omega | assumption | (simp; omega) | (simp; done) | exact hl _ (List.getElem_mem _) | exact h2 _ (List.getElem_mem _) | exact h3 _ (List.getElem_mem _)) (by first | omega | assumption | (simp; omega) | (simp; done) | exact hl _ (List.getElem_mem _) | exact h2 _ (List.getElem_mem _) | exact h3 _ (List.getElem_mem _)) (by first | omega | assumption | (simp; omega) | (simp; done) | exact hl _ (List.getElem_mem _) | exact h2 _ (List.getElem_mem _) | exact h3 _ (List.getElem_mem _))) rfl rfl (by repeat' first | exact trivial | assumption | exact knownSS | exact knownApp knownSS knownNil | refine And.intro ?_ ?_) nofun ?_
    refine tN (by first | omega | assumption | exact fun h => h (by assumption) | exact fun h => h rfl | exact fun h => h Iff.rfl) ?_
    rotate_left
    refine doneV.mk [] [] rfl rfl ?_ ?_ ?_
    repeat' first | exact trivial | exact rfl | exact Iff.rfl | assumption | exact pureI | exact (show _ = _ by omega) | exact (show _ ≤ _ by omega) | exact (show _ < _ by omega) | exact (show ¬ _ by omega) | refine And.intro ?_ ?_
end Sx
