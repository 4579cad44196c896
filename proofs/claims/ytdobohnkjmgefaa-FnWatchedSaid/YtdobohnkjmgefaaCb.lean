/- Contracts: gaps, walks, chasers. -/
import Derived.Test.YtdobohnkjmgefaaMxB
import Derived.Test.YtdobohnkjmgefaaCa
set_option linter.all false
namespace Sx
open Go Go.Proofs
set_option maxRecDepth 100000
set_option maxHeartbeats 4000000
set_option linter.unusedSimpArgs false
set_option linter.unusedSectionVars false
variable [Glb]
theorem most_c (a b : Int) : C 140 [i64 a, i64 b] [] (i64 (max a b)) [] false := by
  refine mkC false false Try.func140 rfl ?_
  refine And.intro nofun ?_
  refine twoP.mk (fun _ => ?_) (fun _ => ?_)
  iterate 2 rotate_left
  all_goals
    refine dv0 rfl ?_
    exact ⟨rfl, by omega⟩
theorem least_c (a b : Int) : C 141 [i64 a, i64 b] [] (i64 (min a b)) [] false := by
  refine mkC false false Try.func141 rfl ?_
  refine And.intro nofun ?_
  refine twoP.mk (fun _ => ?_) (fun _ => ?_)
  iterate 2 rotate_left
  all_goals
    refine dv0 rfl ?_
    exact ⟨rfl, by omega⟩
theorem gap_c (n : Int) (b : Bool) (x y : Int) (hn : 0 ≤ n ∧ n ≤ 1099511627776) (hx : -1099511627776 ≤ x ∧ x ≤ 1099511627776) (hy : -1099511627776 ≤ y ∧ y ≤ 1099511627776) : C 187 [rd n b, i64 x, i64 y] [] (i64 (gap n b x y)) [] false := by
  refine mkC false false Try.func187 rfl ?_
  refine And.intro nofun ?_
  refine Z ?_
  iterate 2 refine nw (by omega) (by omega) ?_
  refine nr ?_
  refine Z ?_
  refine twoP.mk (fun _ => ?_) (fun _ => ?_)
  refine Z ?_
  refine nw (by omega) (by omega) ?_
  refine nr ?_
  iterate 2 rotate_left
  · rename_i h
    refine dv0 rfl ?_
    exact ⟨rfl, by unfold gap; rw [if_pos h]⟩
  · rename_i h
    refine dv0 rfl ?_
    exact ⟨rfl, by unfold gap; rw [if_neg h]⟩
theorem l2Gap_c (n : Int) (b : Bool) (x y : Int) (hn : 0 ≤ n ∧ n ≤ 1099511627776) (hx : -1099511627776 ≤ x ∧ x ≤ 1099511627776) (hy : -1099511627776 ≤ y ∧ y ≤ 1099511627776) : C 189 [rd n b, i64 x, i64 y] [] (i64 (gap n b x y)) [] false := by
  refine mkC false false Try.func189 rfl ?_
  refine And.intro nofun ?_
  refine Z ?_
  iterate 2 refine nw (by omega) (by omega) ?_
  refine callW.mk [] 1 _ _ _ (most_c _ _) rfl rfl trivial nofun ?_
  refine Z ?_
  refine twoP.mk (fun _ => ?_) (fun _ => ?_)
  refine Z ?_
  refine nw (by omega) (by omega) ?_
  refine callW.mk [] 1 _ _ _ (least_c _ _) rfl rfl trivial nofun ?_
  iterate 2 rotate_left
  · rename_i h
    refine dv0 rfl ?_
    exact ⟨rfl, by unfold gap; rw [if_pos h]⟩
  · rename_i h
    refine dv0 rfl ?_
    exact ⟨rfl, by unfold gap; rw [if_neg h]⟩
theorem isWalk_c (n : Int) (b : Bool) (hr : road n b) (w : List Int) (hw : w.length ≤ 1099511627776) : C 147 [rd n b, ints w] [] (pr (walk n b w)) [] false := by
  refine mkC false false Try.func147 rfl ?_
  refine And.intro nofun ?_
  refine Z ?_
  refine lm ?_
  refine callW.mk [] 1 _ _ _ (within_c _ _ _) rfl rfl trivial nofun ?_
  refine twoN (fun _ => ?_) (fun _ => ?_)
  rotate_left
  refine callW.mk [] 1 _ _ _ (has_c _ _ (by first | omega | assumption | (simp; omega) | (simp; done)) _ (by first | omega | assumption | (simp; omega) | (simp; done))) rfl rfl trivial nofun ?_
  refine twoN (fun _ => ?_) (fun _ => ?_)
  iterate 2 rotate_left
  · rename_i h1
    refine dv0 rfl ?_
    exact fun h => h1 h.1
  · rename_i h1 h2
    refine dv0 rfl ?_
    exact fun h => h2 h.2.1
  · rename_i h1 h2
    refine loop_up (β := Nat) (fun k => [(5, i64 (k + 1)), (4, .unk)]) (fun k => []) [] (fun k => k < w.length ∧ near n b w (k + 1)) (fun k => w.length - k) (0) ?_ ?_ ?_
    · exact ⟨by omega, near_1 n b w⟩
    · refine weak.mk [] [0] rfl rfl ?_ ?_
      repeat' first | exact trivial | exact rfl | exact Iff.rfl | assumption | refine And.intro ?_ ?_
    · rintro k ⟨hk, hi⟩ R hR
      have b1 : ∀ i (h : i < w.length), 0 ≤ w[i] ∧ w[i] < n := fun i h => h2 _ (List.getElem_mem h)
      have b2 := b1 k hk
      by_cases hk1 : k + 1 < w.length
      · have b3 := b1 (k + 1) hk1
        refine lm ?_
        refine tY (by first | omega | assumption | exact rfl | exact Iff.rfl) ?_
        refine drawP.mk 12 (Z (Z (Z (Z ?_))))
        apply exP.mk
        exact rfl
        apply exP.mk
        exact rfl
        apply exP.mk
        exact rfl
        apply exP.mk
        refine nw (by omega) (by omega) ?_
        exact rfl
        apply exP.mk
        iterate 2 refine Z ?_
        refine jqm (by omega) ?_
        exact rfl
        apply exP.mk
        refine gm (by omega) ?_
        exact rfl
        apply exP.mk
        exact rfl
        apply exP.mk
        exact rfl
        apply exP.mk
        iterate 2 refine Z ?_
        refine jpm (by omega) ?_
        exact rfl
        apply exP.mk
        refine gm (by omega) ?_
        exact rfl
        apply exP.mk
        refine callP.mk _ _ _ (gap_c _ _ _ _ (by first | omega | assumption | (simp; omega) | (simp; done) | exact h2 _ (List.getElem_mem _)) (by first | omega | assumption | (simp; omega) | (simp; done) | exact h2 _ (List.getElem_mem _)) (by first | omega | assumption | (simp; omega) | (simp; done) | exact h2 _ (List.getElem_mem _))) trivial nofun trivial ?_
        exact rfl
        apply exP.mk
        exact rfl
        refine twoP.mk (fun _ => ?_) (fun _ => ?_)
        rotate_left
        refine nw (by omega) (by omega) ?_
        rotate_left
        · rename_i h3
          refine dv0 rfl ?_
          exact fun h => Int.not_le.2 h3 (h.2.2 k hk1 hk1)
        · rename_i h3
          refine hR (k + 1) _ _ ?_ (weak.mk [] [0] rfl rfl ?_ ?_)
          repeat' first | exact trivial | exact rfl | exact Iff.rfl | assumption | refine And.intro ?_ ?_
          exact ⟨⟨hk1, near_succ hi hk1 (Int.not_lt.1 h3)⟩, by omega⟩
      · refine lm ?_
        refine tN (by first | omega | assumption | exact fun h => h (by assumption) | exact fun h => h rfl | exact fun h => h Iff.rfl) ?_
        rotate_left
        refine dv0 rfl ?_
        exact ⟨h1, h2, near_le hi (by omega)⟩
theorem l2Walk_c (n : Int) (b : Bool) (w : List Int) (hw : w.length ≤ 1099511627776) : C 200 [rd n b, ints w] [] (pr (road n b ∧ walk n b w)) [] false := by
  refine mkC false false Try.func200 rfl ?_
  refine And.intro nofun ?_
  refine Z ?_
  rotate_left
  refine loop_up (β := Nat) (fun k => [(5, i64 k), (4, .unk)]) (fun k => []) [] (fun k => k ≤ w.length ∧ (∀ x ∈ w.take k, road n b ∧ 0 ≤ x ∧ x < n) ∧ near n b w k) (fun k => w.length - k) (0) ?_ ?_ ?_
  · exact ⟨by omega, by simp, near_0 n b w⟩
  · refine weak.mk [] [0] rfl rfl ?_ ?_
    repeat' first | exact trivial | exact rfl | exact Iff.rfl | assumption | refine And.intro ?_ ?_
  · rintro k ⟨hk, hx, hi⟩ R hR
    by_cases hk1 : 0 < k
    · have b3 : 0 ≤ w[k - 1]'(by omega) ∧ w[k - 1]'(by omega) < n := (hx _ (by rw [List.mem_take_iff_getElem]; exact ⟨k - 1, by omega, rfl⟩)).2
      refine lm ?_
      iterate 2 refine twoP.mk (fun _ => ?_) (fun _ => ?_)
      refine drawP.mk 25 (Z (Z (Z (Z ?_))))
      apply exP.mk
      exact rfl
      apply exP.mk
      exact rfl
      apply exP.mk
      exact rfl
      apply exP.mk
      iterate 2 refine Z ?_
      refine jkm (by omega) ?_
      exact rfl
      apply exP.mk
      refine gm (by omega) ?_
      exact rfl
      apply exP.mk
      refine callP.mk _ _ _ (l2Place_c _ _ _) trivial nofun trivial ?_
      exact rfl
      apply exP.mk
      exact rfl
      apply exP.mk
      exact rfl
      refine twoN (fun _ => ?_) (fun _ => ?_)
      rotate_left
      apply exP.mk
      exact rfl
      apply exP.mk
      exact rfl
      apply exP.mk
      exact rfl
      refine tY (by first | omega | assumption | exact rfl | exact Iff.rfl) ?_
      apply exP.mk
      exact rfl
      apply exP.mk
      exact rfl
      apply exP.mk
      exact rfl
      apply exP.mk
      refine nw (by omega) (by omega) ?_
      exact rfl
      apply exP.mk
      iterate 2 refine Z ?_
      refine jmm (by omega) (by omega) ?_
      exact rfl
      apply exP.mk
      refine gm (by omega) ?_
      exact rfl
      apply exP.mk
      exact rfl
      apply exP.mk
      exact rfl
      apply exP.mk
      iterate 2 refine Z ?_
      refine jkm (by omega) ?_
      exact rfl
      apply exP.mk
      refine gm (by omega) ?_
      exact rfl
      apply exP.mk
      refine callP.mk _ _ _ (l2Gap_c _ _ _ _ (by first | omega | assumption | (simp; omega) | (simp; done) | exact hx _ (List.getElem_mem _)) (by first | omega | assumption | (simp; omega) | (simp; done) | exact hx _ (List.getElem_mem _)) (by first | omega | assumption | (simp; omega) | (simp; done) | exact hx _ (List.getElem_mem _))) trivial nofun trivial ?_
      exact rfl
      apply exP.mk
      exact rfl
      refine twoP.mk (fun _ => ?_) (fun _ => ?_)
      rotate_left
      refine nw (by omega) (by omega) ?_
      rotate_left
      refine callW.mk [] 1 _ _ _ (l2Road_c _ _) rfl rfl trivial nofun ?_
      refine twoP.mk (fun _ => ?_) (fun _ => ?_)
      refine lm ?_
      refine callW.mk [] 1 _ _ _ (in_c _ _ _) rfl rfl trivial nofun ?_
      iterate 2 rotate_left
      refine callW.mk [] 1 _ _ _ (l2Road_c _ _) rfl rfl trivial nofun ?_
      refine twoP.mk (fun _ => ?_) (fun _ => ?_)
      refine lm ?_
      refine callW.mk [] 1 _ _ _ (in_c _ _ _) rfl rfl trivial nofun ?_
      iterate 2 rotate_left
      · rename_i h1 h2 h3
        refine dv0 rfl ?_
        exact fun h => h3 ⟨h.1, h.2.2.1 _ (List.getElem_mem _)⟩
      · rename_i h1 h2 h3 h4
        refine dv0 rfl ?_
        exact fun h => by
          have := h.2.2.2 (k - 1) (by omega) (by omega)
          simp only [show k - 1 + 1 = k by omega] at this
          omega
      · rename_i h1 h2 h3 h4
        refine hR (k + 1) _ _ ?_ (weak.mk [] [0] rfl rfl ?_ ?_)
        repeat' first | exact trivial | exact rfl | exact Iff.rfl | assumption | refine And.intro ?_ ?_
        exact ⟨⟨by omega, (all_take (by omega)).2 ⟨hx, h3⟩, near_step hi hk1 (by omega) (by omega)⟩, by omega⟩
      · rename_i h1 h2 h3
        refine dv0 rfl ?_
        exact ⟨fun h => by omega, fun h => h.2.1⟩
      · rename_i h1 h2 h3
        refine dv0 rfl ?_
        exact fun h => h3 h.1
      · rename_i h1 h2
        rw [take_all h1] at hx
        refine dv0 rfl ?_
        exact ⟨fun h => ⟨h2, h, fun x h => (hx x h).2, near_le hi (by omega)⟩, fun h => h.2.1⟩
      · rename_i h1 h2
        refine dv0 rfl ?_
        exact fun h => h2 h.1
    · refine lm ?_
      refine twoP.mk (fun _ => ?_) (fun _ => ?_)
      refine tY (by first | omega | assumption | exact rfl | exact Iff.rfl) ?_
      refine drawP.mk 25 (Z (Z (Z (Z ?_))))
      apply exP.mk
      exact rfl
      apply exP.mk
      exact rfl
      apply exP.mk
      exact rfl
      apply exP.mk
      iterate 2 refine Z ?_
      refine jkm (by omega) ?_
      exact rfl
      apply exP.mk
      refine gm (by omega) ?_
      exact rfl
      apply exP.mk
      refine callP.mk _ _ _ (l2Place_c _ _ _) trivial nofun trivial ?_
      exact rfl
      apply exP.mk
      exact rfl
      apply exP.mk
      exact rfl
      refine twoN (fun _ => ?_) (fun _ => ?_)
      rotate_left
      apply exP.mk
      exact rfl
      apply exP.mk
      exact rfl
      apply exP.mk
      exact rfl
      refine tN (by first | omega | assumption | exact fun h => h (by assumption) | exact fun h => h rfl | exact fun h => h Iff.rfl) ?_
      refine nw (by omega) (by omega) ?_
      rotate_left
      refine callW.mk [] 1 _ _ _ (l2Road_c _ _) rfl rfl trivial nofun ?_
      refine twoP.mk (fun _ => ?_) (fun _ => ?_)
      refine lm ?_
      refine callW.mk [] 1 _ _ _ (in_c _ _ _) rfl rfl trivial nofun ?_
      iterate 2 rotate_left
      · rename_i h1 h3
        refine dv0 rfl ?_
        exact fun h => h3 ⟨h.1, h.2.2.1 _ (List.getElem_mem _)⟩
      · rename_i h1 h3
        refine hR (k + 1) _ _ ?_ (weak.mk [] [0] rfl rfl ?_ ?_)
        repeat' first | exact trivial | exact rfl | exact Iff.rfl | assumption | refine And.intro ?_ ?_
        exact ⟨⟨by omega, (all_take (by omega)).2 ⟨hx, h3⟩, by rw [show k = 0 by omega]; exact near_1 n b w⟩, by omega⟩
      · rename_i h1 h2
        refine dv0 rfl ?_
        exact ⟨fun h => by omega, fun h => by have := h.2.1; omega⟩
      · rename_i h1 h2
        refine dv0 rfl ?_
        exact fun h => h2 h.1
theorem areWalks1_c (n : Int) (b : Bool) (hr : road n b) (w : List Int) (hw : w.length ≤ 1099511627776) : C 236 [ints w, .pim 2 [rd n b] 0 0] [] (pr (¬ walk n b w)) [] false := by
  refine mkC false false Try.func236 rfl ?_
  refine And.intro nofun ?_
  refine getP.mk _ rfl ?_
  refine callW.mk [] 0 _ _ _ (isWalk_c _ _ (by first | omega | assumption | (simp; omega) | (simp; done)) _ (by first | omega | assumption | (simp; omega) | (simp; done))) rfl rfl trivial nofun ?_
  rotate_left
  refine dv0 rfl ?_
  exact Iff.rfl
theorem IndexFuncSS_c1 {f sz j t : Nat} {es : List AV} (p : List Int → Prop) [DecidablePred p] (L : List (List Int)) (hL : L.length ≤ 1099511627776) (h : ∀ l ∈ L, C f [ints l, .pim sz es j t] [] (pr (p l)) [] false) :
    C 192 [intss L, .fn (.func f) [] [.pim sz es j t]] [] (i64 (fIx p L)) [] false := by
  refine mkC false false Try.func192 rfl ?_
  refine And.intro nofun ?_
  refine lm ?_
  rotate_left
  refine loop_up (β := Nat) (fun k => [(8, i64 k), (4, .unk)]) (fun k => []) [] (fun k => k ≤ L.length ∧ ∀ l ∈ L.take k, ¬ p l) (fun k => L.length - k) (0) ?_ ?_ ?_
  · simp
  · refine weak.mk [] [] rfl rfl ?_ ?_
    repeat' first | exact trivial | exact rfl | exact Iff.rfl | assumption | refine And.intro ?_ ?_
  · rintro k ⟨hk, hi⟩ R hR
    refine twoP.mk (fun _ => ?_) (fun _ => ?_)
    iterate 2 refine Z ?_
    refine jkm (by omega) ?_
    refine gm (by omega) ?_
    refine callW.mk [] 0 _ _ _ (h L[k] (List.getElem_mem _)) rfl rfl (by repeat' first | exact trivial | assumption | exact knownSS | exact knownApp knownSS knownNil | refine And.intro ?_ ?_) nofun ?_
    refine twoP.mk (fun _ => ?_) (fun _ => ?_)
    rotate_left
    refine nw (by omega) (by omega) ?_
    iterate 2 rotate_left
    · rename_i h2 h3
      refine dv0 rfl ?_
      exact ⟨rfl, (fIx_here (by omega) hi h3).symm⟩
    · rename_i h2 h3
      refine hR (k + 1) _ _ ?_ (weak.mk [] [] rfl rfl ?_ ?_)
      repeat' first | exact trivial | exact rfl | exact Iff.rfl | assumption | refine And.intro ?_ ?_
      exact ⟨⟨by omega, (all_take (by omega)).2 ⟨hi, h3⟩⟩, by omega⟩
    · rename_i h2
      rw [take_all h2] at hi
      refine dv0 rfl ?_
      exact ⟨rfl, (fIx_no hi).symm⟩
theorem ContainsFuncSS_c1 {f sz j t : Nat} {es : List AV} (p : List Int → Prop) [DecidablePred p] (L : List (List Int)) (hL : L.length ≤ 1099511627776) (h : ∀ l ∈ L, C f [ints l, .pim sz es j t] [] (pr (p l)) [] false) :
    C 235 [intss L, .fn (.func f) [] [.pim sz es j t]] [] (pr (0 ≤ fIx p L)) [] false := by
  refine mkC false false Try.func235 rfl ?_
  refine And.intro nofun ?_
  refine callW.mk [] 0 _ _ _ ((IndexFuncSS_c1 p L hL h)) rfl rfl (by repeat' first | exact trivial | assumption | exact knownSS | exact knownApp knownSS knownNil | refine And.intro ?_ ?_) nofun ?_
  rotate_left
  refine dv0 rfl ?_
  exact Iff.rfl
theorem areWalks_c (n : Int) (b : Bool) (L : List (List Int)) (hL : L.length ≤ 1099511627776) (hl : ∀ l ∈ L, l.length ≤ 1099511627776) : C 172 [rd n b, intss L] [] (pr (road n b ∧ walks n b L)) [] false := by
  refine mkC false false Try.func172 rfl ?_
  refine And.intro nofun ?_
  by_cases hr : road n b
  · refine Z ?_
    refine callW.mk [] 1 _ _ _ (IsRoad_c _ _) rfl rfl trivial nofun ?_
    refine tY (by first | omega | assumption | exact rfl | exact Iff.rfl) ?_
    refine callW.mk [] 1 _ _ _ ((ContainsFuncSS_c1 (fun w => ¬ walk n b w) L hL (fun l h => areWalks1_c n b hr l (hl l h)))) rfl rfl (by repeat' first | exact trivial | assumption | exact knownSS | exact knownApp knownSS knownNil | refine And.intro ?_ ?_) nofun ?_
    rotate_left
    refine dv0 rfl ?_
    exact (show ¬ 0 ≤ fIx (fun w => ¬ walk n b w) L ↔ road n b ∧ walks n b L from by
      rw [fIx_ge]
      exact ⟨fun h => ⟨hr, fun w hw => Classical.byContradiction fun hc => h ⟨w, hw, hc⟩⟩, fun h ⟨w, hw, hc⟩ => hc (h.2 w hw)⟩)
  · refine Z ?_
    refine callW.mk [] 1 _ _ _ (IsRoad_c _ _) rfl rfl trivial nofun ?_
    refine tN (by first | omega | assumption | exact fun h => h (by assumption) | exact fun h => h rfl | exact fun h => h Iff.rfl) ?_
    rotate_left
    refine dv0 rfl ?_
    exact fun h => hr h.1
theorem areChasers_c (n : Int) (b : Bool) (L : List (List Int)) (hL : L.length ≤ 1099511627776) (hl : ∀ l ∈ L, l.length ≤ 1099511627776) : C 110 [rd n b, intss L] [] (pr (chasers n b L)) [] false := by
  refine mkC false false Try.func110 rfl ?_
  refine And.intro nofun ?_
  refine Z ?_
  refine callW.mk [] 1 _ _ _ (areWalks_c _ _ _ (by first | omega | assumption | (simp; omega) | (simp; done) | exact hl _ (List.getElem_mem _)) (by first | omega | assumption | (simp; omega) | (simp; done) | exact hl _ (List.getElem_mem _))) rfl rfl trivial nofun ?_
  refine twoP.mk (fun _ => ?_) (fun _ => ?_)
  refine lm ?_
  refine callW.mk [] 1 _ _ _ (isChasers_c _) rfl rfl trivial nofun ?_
  iterate 2 rotate_left
  · rename_i h
    refine dv0 rfl ?_
    exact ⟨fun h2 => ⟨h.1, h.2, h2⟩, fun h2 => h2.2.2⟩
  · rename_i h
    refine dv0 rfl ?_
    exact fun h2 => h ⟨h2.1, h2.2.1⟩
theorem AreChasers_c (n : Int) (b : Bool) (L : List (List Int)) (hL : L.length ≤ 1099511627776) (hl : ∀ l ∈ L, l.length ≤ 1099511627776) : C 90 [rd n b, intss L] [] (.tuple [pr (chasers n b L), pr (road n b)]) [] false := by
  refine mkC false false Try.func90 rfl ?_
  refine And.intro nofun ?_
  refine Z ?_
  refine callW.mk [] 1 _ _ _ (IsRoad_c _ _) rfl rfl trivial nofun ?_
  refine twoN (fun _ => ?_) (fun _ => ?_)
  rotate_left
  refine callW.mk [] 1 _ _ _ (areChasers_c _ _ _ (by first | omega | assumption | (simp; omega) | (simp; done) | exact hl _ (List.getElem_mem _)) (by first | omega | assumption | (simp; omega) | (simp; done) | exact hl _ (List.getElem_mem _))) rfl rfl trivial nofun ?_
  rotate_left
  · rename_i h
    refine dv0 rfl ?_
    exact ⟨fun h2 => h h2.1, h, trivial⟩
  · rename_i h
    refine dv0 rfl ?_
    exact ⟨Iff.rfl, h, trivial⟩
theorem l11Chasers_c (n : Int) (b : Bool) (L : List (List Int)) (hL : L.length ≤ 1099511627776) (hl : ∀ l ∈ L, l.length ≤ 1099511627776) : C 106 [rd n b, intss L] [] (pr (chasers n b L)) [] false := by
  refine mkC false false Try.func106 rfl ?_
  refine And.intro nofun ?_
  refine Z ?_
  rotate_left
  refine loop_up (β := Nat) (fun k => [(5, i64 k), (4, .unk)]) (fun k => []) [] (fun k => k ≤ L.length ∧ ∀ w ∈ L.take k, road n b ∧ walk n b w) (fun k => L.length - k) (0) ?_ ?_ ?_
  · simp
  · refine weak.mk [] [0] rfl rfl ?_ ?_
    repeat' first | exact trivial | exact rfl | exact Iff.rfl | assumption | refine And.intro ?_ ?_
  · rintro k ⟨hk, hi⟩ R hR
    refine lm ?_
    iterate 2 refine twoP.mk (fun _ => ?_) (fun _ => ?_)
    refine drawP.mk 7 (Z (Z (Z (Z ?_))))
    apply exP.mk
    exact rfl
    apply exP.mk
    exact rfl
    apply exP.mk
    exact rfl
    apply exP.mk
    iterate 2 refine Z ?_
    refine jkm (by omega) ?_
    exact rfl
    apply exP.mk
    refine gm (by omega) ?_
    exact rfl
    apply exP.mk
    refine callP.mk _ _ _ ((l2Walk_c n b L[k] (hl _ (List.getElem_mem _)))) (by repeat' first | exact trivial | assumption | exact knownSS | exact knownApp knownSS knownNil | refine And.intro ?_ ?_) nofun trivial ?_
    exact rfl
    apply exP.mk
    exact rfl
    refine twoN (fun _ => ?_) (fun _ => ?_)
    rotate_left
    refine nw (by omega) (by omega) ?_
    rotate_left
    refine callW.mk [] 1 _ _ _ (l2Road_c _ _) rfl rfl trivial nofun ?_
    refine twoP.mk (fun _ => ?_) (fun _ => ?_)
    refine lm ?_
    refine callW.mk [] 1 _ _ _ (in_c _ _ _) rfl rfl trivial nofun ?_
    iterate 2 rotate_left
    refine callW.mk [] 1 _ _ _ (l2Road_c _ _) rfl rfl trivial nofun ?_
    refine twoP.mk (fun _ => ?_) (fun _ => ?_)
    refine lm ?_
    refine callW.mk [] 1 _ _ _ (in_c _ _ _) rfl rfl trivial nofun ?_
    iterate 2 rotate_left
    · rename_i h1 h2 h3
      refine dv0 rfl ?_
      exact fun h => h3 ⟨h.1, h.2.1 _ (List.getElem_mem _)⟩
    · rename_i h1 h2 h3
      refine hR (k + 1) _ _ ?_ (weak.mk [] [0] rfl rfl ?_ ?_)
      repeat' first | exact trivial | exact rfl | exact Iff.rfl | assumption | refine And.intro ?_ ?_
      exact ⟨⟨by omega, (all_take (by omega)).2 ⟨hi, h3⟩⟩, by omega⟩
    · rename_i h1 h2 h3
      refine dv0 rfl ?_
      exact ⟨fun h => by omega, fun h => h.2.2⟩
    · rename_i h1 h2 h3
      refine dv0 rfl ?_
      exact fun h => h3 h.1
    · rename_i h1 h2
      rw [take_all h1] at hi
      refine dv0 rfl ?_
      exact ⟨fun h => ⟨h2, fun w hw => (hi w hw).2, h⟩, fun h => h.2.2⟩
    · rename_i h1 h2
      refine dv0 rfl ?_
      exact fun h => h2 h.1
theorem sAreChasers_c (n : Int) (b : Bool) (L : List (List Int)) (hL : L.length ≤ 1099511627776) (hl : ∀ l ∈ L, l.length ≤ 1099511627776) : C 91 [rd n b, intss L] [] (.tuple [pr (chasers n b L), pr (road n b)]) [] false := by
  refine mkC false false Try.func91 rfl ?_
  refine And.intro nofun ?_
  refine Z ?_
  refine callW.mk [] 1 _ _ _ (l2Road_c _ _) rfl rfl trivial nofun ?_
  refine twoN (fun _ => ?_) (fun _ => ?_)
  rotate_left
  refine callW.mk [] 1 _ _ _ (l11Chasers_c _ _ _ (by first | omega | assumption | (simp; omega) | (simp; done) | exact hl _ (List.getElem_mem _)) (by first | omega | assumption | (simp; omega) | (simp; done) | exact hl _ (List.getElem_mem _))) rfl rfl trivial nofun ?_
  rotate_left
  · rename_i h
    refine dv0 rfl ?_
    exact ⟨fun h2 => h h2.1, h, trivial⟩
  · rename_i h
    refine dv0 rfl ?_
    exact ⟨Iff.rfl, h, trivial⟩
theorem szIntS_c (l : List Int) (hl : l.length ≤ 9223372036854775807) (k : Int) (h0 : 0 ≤ k) (hk : k ≤ 1048576) : C 105 [ints l, i64 k] [] (i64 (if k - l.length < 0 then -1 else k - l.length)) [] false := by
  refine mkC false false Try.func105 rfl ?_
  refine And.intro nofun ?_
  refine lm ?_
  refine nw (by omega) (by omega) ?_
  refine twoP.mk (fun _ => ?_) (fun _ => ?_)
  iterate 2 rotate_left
  · rename_i h
    refine dv0 rfl ?_
    exact ⟨rfl, by rw [if_pos h]⟩
  · rename_i h
    refine dv0 rfl ?_
    exact ⟨rfl, by rw [if_neg h]⟩
theorem szIntSS_c (L : List (List Int)) (hL : L.length ≤ 9223372036854775807) (hl : ∀ l ∈ L, l.length ≤ 9223372036854775807) (k : Int) (h0 : 0 ≤ k) (hk : k ≤ 1048576) : C 13 [intss L, i64 k] [] (i64 (szSS L k)) [] false := by
  refine mkC false false Try.func13 rfl ?_
  refine And.intro nofun ?_
  refine lm ?_
  refine nw (by omega) (by omega) ?_
  refine twoP.mk (fun _ => ?_) (fun _ => ?_)
  iterate 2 rotate_left
  · rename_i h
    refine dv0 rfl ?_
    exact ⟨rfl, by unfold szSS; rw [if_pos h]⟩
  · rename_i h
    refine loop_up (β := Nat × Int) (fun (j, m) => [(5, i64 j), (1, i64 m), (4, .unk)]) (fun (j, m) => []) [] (fun (j, m) => j ≤ L.length ∧ szF L (k - L.length) = szF (L.drop j) m ∧ 0 ≤ m ∧ m ≤ 1048576) (fun (j, m) => L.length - j) ((0, k - L.length)) ?_ ?_ ?_
    · exact ⟨by omega, rfl, by omega, by omega⟩
    · refine weak.mk [] [] rfl rfl ?_ ?_
      repeat' first | exact trivial | exact rfl | exact Iff.rfl | assumption | refine And.intro ?_ ?_
    · rintro ⟨j, m⟩ ⟨hj, hi, h1, h2⟩ R hR
      dsimp only
      refine lm ?_
      refine twoP.mk (fun _ => ?_) (fun _ => ?_)
      iterate 2 refine Z ?_
      refine jkm (by omega) ?_
      refine gm (by omega) ?_
      refine callW.mk [] 0 _ _ _ ((szIntS_c L[j] (hl _ (List.getElem_mem _)) m h1 h2)) rfl rfl (by repeat' first | exact trivial | assumption | exact knownSS | exact knownApp knownSS knownNil | refine And.intro ?_ ?_) nofun ?_
      refine twoP.mk (fun _ => ?_) (fun _ => ?_)
      rotate_left
      refine nw (by omega) (by omega) ?_
      iterate 2 rotate_left
      · rename_i h3 h4
        rw [List.drop_eq_getElem_cons (by omega), szF_cons] at hi
        split at h4
        · rename_i h5
          rw [if_pos h5] at hi
          refine dv0 rfl ?_
          exact ⟨rfl, by unfold szSS; rw [if_neg h, hi]⟩
        · omega
      · rename_i h3 h4
        rw [List.drop_eq_getElem_cons (by omega), szF_cons] at hi
        split at h4
        · omega
        · rename_i h5
          rw [if_neg h5] at hi
          refine hR ((j + 1, m - (L[j].length : Nat))) _ _ ?_ (weak.mk [] [] rfl rfl ?_ ?_)
          repeat' first | exact trivial | exact rfl | exact Iff.rfl | assumption | refine And.intro ?_ ?_
          · exact ⟨⟨by omega, hi, by omega, by omega⟩, by dsimp only; omega⟩
          · rw [if_neg h5]
      · rename_i h3
        rw [List.drop_of_length_le (by omega)] at hi
        refine dv0 rfl ?_
        exact ⟨rfl, by unfold szSS; rw [if_neg h, hi]; rfl⟩
theorem toIntSS_c (L : List (List Int)) (hL : L.length ≤ 1099511627776) (hl : ∀ l ∈ L, l.length ≤ 1099511627776) : C 16 [intss L] [] (.loc 0) [.row .nest 1 (L.map ints)] false := by
  refine mkC true false Try.func16 rfl ?_
  refine And.intro nofun ?_
  refine lm ?_
  iterate 2 refine Z ?_
  refine jk (by omega) ?_
  refine ixb (by omega) (by omega) ?_
  iterate 2 refine Z ?_
  refine erepS ?_
  rotate_left
  refine loop_up (β := Nat) (fun k => [(4, i64 k)]) (fun k => [(0, .row .nest 1 ((L.take k ++ (List.replicate L.length []).drop k).map ints))]) [] (fun k => k ≤ L.length) (fun k => L.length - k) (0) ?_ ?_ ?_
  · omega
  · refine weak.mk [] [0] rfl rfl ?_ ?_
    repeat' first | exact trivial | exact rfl | exact Iff.rfl | assumption | refine And.intro ?_ ?_
  · rintro k hk R hR
    have hm : (L.take k ++ (List.replicate L.length ([] : List Int)).drop k).length = L.length := by simp; omega
    refine lm ?_
    refine twoP.mk (fun _ => ?_) (fun _ => ?_)
    iterate 2 refine Z ?_
    refine jkm (by omega) ?_
    refine gm (by omega) ?_
    refine callW.mk [] 1 _ _ _ ((toIntS_c L[k] (hl _ (List.getElem_mem _)))) rfl rfl (by repeat' first | exact trivial | assumption | exact knownSS | exact knownApp knownSS knownNil | refine And.intro ?_ ?_) nofun ?_
    iterate 2 refine Z ?_
    refine jkm (by omega) ?_
    iterate 2 refine Z ?_
    refine ixm (by omega) (by omega) ?_
    refine Z ?_
    refine eset' ?_
    refine nw (by omega) (by omega) ?_
    iterate 2 rotate_left
    · rename_i h1
      refine hR (k + 1) _ _ ?_ (weak.mk [] [0] rfl rfl ?_ ?_)
      repeat' first | exact trivial | exact rfl | exact Iff.rfl | assumption | refine And.intro ?_ ?_
      · exact ⟨by omega, by omega⟩
      · rw [set_at (by simp; omega) (by simp; omega), take_snoc (by omega)]
    · rename_i h1
      refine doneV.mk [] [0] rfl rfl ?_ ?_ ?_
      repeat' first | exact trivial | exact rfl | exact Iff.rfl | assumption | exact pureI | refine And.intro ?_ ?_
      · rw [take_all h1, List.drop_of_length_le (by simp; omega), List.append_nil]
      · exact pureSS
theorem eqIntSS_c (a b : List (List Int)) (hl : a.length ≤ 1099511627776) (hb : b.length ≤ 1099511627776) (ha : ∀ l ∈ a, l.length ≤ 1099511627776) (hb2 : ∀ l ∈ b, l.length ≤ 1099511627776) : C 19 [intss a, intss b] [] (pr (a = b)) [] false := by
  refine mkC false false Try.func19 rfl ?_
  refine And.intro nofun ?_
  iterate 2 refine lm ?_
  refine twoN (fun _ => ?_) (fun _ => ?_)
  iterate 2 rotate_left
  · rename_i h1
    refine dv0 rfl ?_
    exact fun h => h1 (by rw [h])
  · rename_i h1
    refine loop_up (β := Nat) (fun k => [(5, i64 k), (4, .unk)]) (fun k => []) [] (fun k => k ≤ a.length ∧ a.take k = b.take k) (fun k => a.length - k) (0) ?_ ?_ ?_
    · simp
    · refine weak.mk [] [] rfl rfl ?_ ?_
      repeat' first | exact trivial | exact rfl | exact Iff.rfl | assumption | refine And.intro ?_ ?_
    · rintro k ⟨hk, hi⟩ R hR
      refine lm ?_
      refine twoP.mk (fun _ => ?_) (fun _ => ?_)
      refine drawP.mk 10 (Z (Z (Z (Z ?_))))
      apply exP.mk
      exact rfl
      apply exP.mk
      exact rfl
      apply exP.mk
      iterate 2 refine Z ?_
      refine jkm (by omega) ?_
      exact rfl
      apply exP.mk
      refine gm (by omega) ?_
      exact rfl
      apply exP.mk
      exact rfl
      apply exP.mk
      exact rfl
      apply exP.mk
      iterate 2 refine Z ?_
      refine jkm (by omega) ?_
      exact rfl
      apply exP.mk
      refine gm (by omega) ?_
      exact rfl
      apply exP.mk
      refine callP.mk _ _ _ ((eqIntS_c a[k] b[k] (ha _ (List.getElem_mem _)) (hb2 _ (List.getElem_mem _)))) (by repeat' first | exact trivial | assumption | exact knownSS | exact knownApp knownSS knownNil | refine And.intro ?_ ?_) nofun trivial ?_
      exact rfl
      apply exP.mk
      exact rfl
      refine twoN (fun _ => ?_) (fun _ => ?_)
      rotate_left
      refine nw (by omega) (by omega) ?_
      iterate 2 rotate_left
      · rename_i h2 h3
        refine dv0 rfl ?_
        exact fun h => h3 (by subst h; rfl)
      · rename_i h2 h3
        refine hR (k + 1) _ _ ?_ (weak.mk [] [] rfl rfl ?_ ?_)
        repeat' first | exact trivial | exact rfl | exact Iff.rfl | assumption | refine And.intro ?_ ?_
        exact ⟨⟨by omega, (eq_take (by omega) (by omega)).2 ⟨hi, h3⟩⟩, by omega⟩
      · rename_i h2
        rw [take_all h2, take_all (by omega)] at hi
        refine dv0 rfl ?_
        exact hi
end Sx
