/- Contracts: steps of dirty lists. -/
import Derived.Test.YtdobohnkjmgefaaMxC
import Derived.Test.YtdobohnkjmgefaaCb
set_option linter.all false
namespace Sx
open Go Go.Proofs
set_option maxRecDepth 100000
set_option maxHeartbeats 4000000
set_option linter.unusedSimpArgs false
set_option linter.unusedSectionVars false
variable [Glb]
theorem neighbors_c (n : Int) (b : Bool) (hr : road n b) (p : Int) (hp : 0 ≤ p ∧ p < n) : C 184 [rd n b, i64 p] [] (.loc 0) [row (nbrs n b p)] false := by
  refine mkC false false Try.func184 rfl ?_
  refine And.intro nofun ?_
  iterate 4 refine Z ?_
  rotate_left
  refine loop_up (β := Nat) (fun k => [(5, .loc 1), (10, i64 k)]) (fun k => [(1, row (((List.range k).filter fun q : Nat => decide (gap n b p (q : Int) = 1)).map fun q : Nat => (q : Int)))]) [1] (fun k => (k : Int) ≤ n) (fun k => n.toNat - k) (0) ?_ ?_ ?_
  · omega
  · refine weak.mk [1] [0, 1] rfl rfl ?_ ?_
    repeat' first | exact trivial | exact rfl | exact Iff.rfl | assumption | refine And.intro ?_ ?_
  · rintro k hk R hR
    have hm : (((List.range k).filter fun q : Nat => decide (gap n b p (q : Int) = 1)).map fun q : Nat => (q : Int)).length ≤ k := by
      rw [List.length_map]
      have := List.length_filter_le (fun q : Nat => decide (gap n b p (q : Int) = 1)) (List.range k)
      rwa [List.length_range] at this
    refine twoP.mk (fun _ => ?_) (fun _ => ?_)
    refine callW.mk [] 2 _ _ _ (gap_c _ _ _ _ (by first | omega | assumption | (simp; omega) | (simp; done)) (by first | omega | assumption | (simp; omega) | (simp; done)) (by first | omega | assumption | (simp; omega) | (simp; done))) rfl rfl trivial nofun ?_
    refine twoP.mk (fun _ => ?_) (fun _ => ?_)
    iterate 10 refine Z ?_
    refine lem1 (by omega) ?_
    refine ea ?_
    refine nw (by omega) (by omega) ?_
    rotate_left
    refine nw (by omega) (by omega) ?_
    iterate 2 rotate_left
    · rename_i h1 h2
      refine hR (k + 1) _ _ ?_ (weak.mk [] [0, 3] rfl rfl ?_ ?_)
      repeat' first | exact trivial | exact rfl | exact Iff.rfl | assumption | refine And.intro ?_ ?_
      · exact ⟨by omega, by omega⟩
      · exact map_congr (by rw [filter_snoc, if_pos (by simpa using h2)])
    · rename_i h1 h2
      refine hR (k + 1) _ _ ?_ (weak.mk [] [0, 1] rfl rfl ?_ ?_)
      repeat' first | exact trivial | exact rfl | exact Iff.rfl | assumption | refine And.intro ?_ ?_
      · exact ⟨by omega, by omega⟩
      · exact map_congr (by rw [filter_snoc, if_neg (by simpa using h2), List.append_nil])
    · rename_i h1
      refine doneV.mk [] [1] rfl rfl ?_ ?_ ?_
      repeat' first | exact trivial | exact rfl | exact Iff.rfl | assumption | exact pureI | refine And.intro ?_ ?_
      have e : k = n.toNat := by omega
      rw [e]; rfl
theorem catches_c (fr to : List Int) (hl : fr.length ≤ 1099511627776) (he : fr.length = to.length) (p q : Int) : C 186 [ints fr, ints to, i64 p, i64 q] [] (pr (caught fr to p q)) [] false := by
  have hz : (fr.zip to).length = fr.length := by simp; omega
  refine mkC false false Try.func186 rfl ?_
  refine And.intro nofun ?_
  refine lm ?_
  rotate_left
  refine loop_up (β := Nat) (fun k => [(12, i64 k), (8, .unk)]) (fun k => []) [] (fun k => k ≤ fr.length ∧ ∀ x ∈ (fr.zip to).take k, ¬ (x.2 = q ∨ (p ≠ q ∧ x.1 = q ∧ x.2 = p))) (fun k => fr.length - k) (0) ?_ ?_ ?_
  · simp
  · refine weak.mk [] [] rfl rfl ?_ ?_
    repeat' first | exact trivial | exact rfl | exact Iff.rfl | assumption | refine And.intro ?_ ?_
  · rintro k ⟨hk, hi⟩ R hR
    have hz1 : k < fr.length → (k < (fr.zip to).length) := by omega
    refine twoP.mk (fun _ => ?_) (fun _ => ?_)
    iterate 2 refine Z ?_
    refine jkm (by omega) ?_
    refine gm (by omega) ?_
    refine twoP.mk (fun _ => ?_) (fun _ => ?_)
    rotate_left
    refine twoN (fun _ => ?_) (fun _ => ?_)
    iterate 2 refine Z ?_
    refine jkm (by omega) ?_
    refine gm (by omega) ?_
    refine twoP.mk (fun _ => ?_) (fun _ => ?_)
    iterate 2 refine Z ?_
    refine jkm (by omega) ?_
    refine gm (by omega) ?_
    refine twoP.mk (fun _ => ?_) (fun _ => ?_)
    rotate_left
    refine nw (by omega) (by omega) ?_
    rotate_left
    refine nw (by omega) (by omega) ?_
    rotate_left
    refine nw (by omega) (by omega) ?_
    iterate 2 rotate_left
    · rename_i h1 h2
      refine dv0 rfl ?_
      exact ⟨(fr.zip to)[k]'(by omega), List.getElem_mem _, .inl (by rw [List.getElem_zip]; exact h2)⟩
    · rename_i h1 h2 h3 h4 h5
      refine dv0 rfl ?_
      exact ⟨(fr.zip to)[k]'(by omega), List.getElem_mem _, .inr (by rw [List.getElem_zip]; exact ⟨h3, h4, h5⟩)⟩
    · rename_i h1 h2 h3 h4 h5
      refine hR (k + 1) _ _ ?_ (weak.mk [] [] rfl rfl ?_ ?_)
      repeat' first | exact trivial | exact rfl | exact Iff.rfl | assumption | refine And.intro ?_ ?_
      exact ⟨⟨by omega, (all_take (by omega)).2 ⟨hi, by rw [List.getElem_zip]; exact fun h => h.elim h2 fun h => h5 h.2.2⟩⟩, by omega⟩
    · rename_i h1 h2 h3 h4
      refine hR (k + 1) _ _ ?_ (weak.mk [] [] rfl rfl ?_ ?_)
      repeat' first | exact trivial | exact rfl | exact Iff.rfl | assumption | refine And.intro ?_ ?_
      exact ⟨⟨by omega, (all_take (by omega)).2 ⟨hi, by rw [List.getElem_zip]; exact fun h => h.elim h2 fun h => h4 h.2.1⟩⟩, by omega⟩
    · rename_i h1 h2 h3
      refine hR (k + 1) _ _ ?_ (weak.mk [] [] rfl rfl ?_ ?_)
      repeat' first | exact trivial | exact rfl | exact Iff.rfl | assumption | refine And.intro ?_ ?_
      exact ⟨⟨by omega, (all_take (by omega)).2 ⟨hi, by rw [List.getElem_zip]; exact fun h => h.elim h2 fun h => h.1 h3⟩⟩, by omega⟩
    · rename_i h1
      rw [List.take_of_length_le (by omega)] at hi
      refine dv0 rfl ?_
      exact fun ⟨x, hx, h⟩ => hi x hx h
theorem l11Passes_c (fr to : List Int) (hl : fr.length ≤ 1099511627776) (he : fr.length = to.length) (p q : Int) : C 190 [ints fr, ints to, i64 p, i64 q] [] (pr (passes fr to p q)) [] false := by
  have hz : (fr.zip to).length = fr.length := by simp; omega
  refine mkC false false Try.func190 rfl ?_
  refine And.intro nofun ?_
  rotate_left
  refine loop_up (β := Nat) (fun k => [(9, i64 k), (8, .unk)]) (fun k => []) [] (fun k => k ≤ fr.length ∧ ∀ x ∈ (fr.zip to).take k, ¬ (p ≠ q ∧ x.1 = q ∧ x.2 = p)) (fun k => fr.length - k) (0) ?_ ?_ ?_
  · simp
  · refine weak.mk [] [] rfl rfl ?_ ?_
    repeat' first | exact trivial | exact rfl | exact Iff.rfl | assumption | refine And.intro ?_ ?_
  · rintro k ⟨hk, hi⟩ R hR
    refine lm ?_
    refine twoP.mk (fun _ => ?_) (fun _ => ?_)
    refine twoN (fun _ => ?_) (fun _ => ?_)
    iterate 2 refine Z ?_
    refine jkm (by omega) ?_
    refine gm (by omega) ?_
    refine twoP.mk (fun _ => ?_) (fun _ => ?_)
    iterate 2 refine Z ?_
    refine jkm (by omega) ?_
    refine gm (by omega) ?_
    refine twoP.mk (fun _ => ?_) (fun _ => ?_)
    rotate_left
    refine nw (by omega) (by omega) ?_
    rotate_left
    refine nw (by omega) (by omega) ?_
    rotate_left
    refine nw (by omega) (by omega) ?_
    iterate 2 rotate_left
    · rename_i h1 h3 h4 h5
      refine dv0 rfl ?_
      exact ⟨(fr.zip to)[k]'(by omega), List.getElem_mem _, by rw [List.getElem_zip]; exact ⟨h3, h4, h5⟩⟩
    · rename_i h1 h3 h4 h5
      refine hR (k + 1) _ _ ?_ (weak.mk [] [] rfl rfl ?_ ?_)
      repeat' first | exact trivial | exact rfl | exact Iff.rfl | assumption | refine And.intro ?_ ?_
      exact ⟨⟨by omega, (all_take (by omega)).2 ⟨hi, by rw [List.getElem_zip]; exact fun h => h5 h.2.2⟩⟩, by omega⟩
    · rename_i h1 h3 h4
      refine hR (k + 1) _ _ ?_ (weak.mk [] [] rfl rfl ?_ ?_)
      repeat' first | exact trivial | exact rfl | exact Iff.rfl | assumption | refine And.intro ?_ ?_
      exact ⟨⟨by omega, (all_take (by omega)).2 ⟨hi, by rw [List.getElem_zip]; exact fun h => h4 h.2.1⟩⟩, by omega⟩
    · rename_i h1 h3
      refine hR (k + 1) _ _ ?_ (weak.mk [] [] rfl rfl ?_ ?_)
      repeat' first | exact trivial | exact rfl | exact Iff.rfl | assumption | refine And.intro ?_ ?_
      exact ⟨⟨by omega, (all_take (by omega)).2 ⟨hi, by rw [List.getElem_zip]; exact fun h => h.1 h3⟩⟩, by omega⟩
    · rename_i h1
      rw [List.take_of_length_le (by omega)] at hi
      refine dv0 rfl ?_
      exact fun ⟨x, hx, h⟩ => hi x hx h
theorem stepDirty_c (n : Int) (b : Bool) (hr : road n b) (d fr to : List Int) (hd : bits n d) (hl : fr.length ≤ 1099511627776) (he : fr.length = to.length) : C 211 [rd n b, ints d, ints fr, ints to] [] (.loc 0) [row (stepD n b d fr to)] false := by
  have hdl := hd.2
  refine mkC false false Try.func211 rfl ?_
  refine And.intro nofun ?_
  iterate 4 refine Z ?_
  refine jn (by omega) (by omega) ?_
  refine ixb (by omega) (by omega) ?_
  iterate 2 refine Z ?_
  refine erep0 ?_
  refine lm ?_
  rotate_left
  refine loop_up (β := Nat) (fun k => [(19, i64 k)]) (fun k => [(1, row (ind n.toNat fun q => ∃ p, p < k ∧ runs n b d fr to p q))]) [] (fun k => k ≤ d.length) (fun k => d.length - k) (0) ?_ ?_ ?_
  · omega
  · refine weak.mk [] [0, 1] rfl rfl ?_ ?_
    repeat' first | exact trivial | exact rfl | exact Iff.rfl | assumption | refine And.intro ?_ ?_
    exact map_congr ((ind_zero _).trans (ind_congr fun q _ => ⟨False.elim, fun ⟨p, h, _⟩ => by omega⟩))
  · rintro k hk R hR
    have hN := nbrs_len n b k
    have hNl : (nbrs n b k ++ [(k : Int)]).length = (nbrs n b k).length + 1 := by simp
    refine twoP.mk (fun _ => ?_) (fun _ => ?_)
    iterate 2 refine Z ?_
    refine jkm (by omega) ?_
    refine gm (by omega) ?_
    refine twoP.mk (fun _ => ?_) (fun _ => ?_)
    refine nw (by omega) (by omega) ?_
    rotate_left
    refine callW.mk [] 2 _ _ _ (neighbors_c _ _ (by first | omega | assumption | (simp; omega) | (simp; done)) _ (by first | omega | assumption | (simp; omega) | (simp; done))) rfl rfl trivial nofun ?_
    iterate 10 refine Z ?_
    refine lem1 (by omega) ?_
    refine ea ?_
    refine lm ?_
    iterate 2 rotate_left
    · rename_i h1 h2
      refine hR (k + 1) _ _ ?_ (weak.mk [] [0, 1] rfl rfl ?_ ?_)
      repeat' first | exact trivial | exact rfl | exact Iff.rfl | assumption | refine And.intro ?_ ?_
      · exact ⟨by omega, by omega⟩
      · exact map_congr (ind_congr fun q _ => (skip_step (by omega) h2).symm)
    · rename_i h1 h2
      refine loop_up (β := Nat) (fun j => [(33, i64 j)]) (fun j => [(1, row (ind n.toNat fun q => (∃ p, p < k ∧ runs n b d fr to p q) ∨ ((q : Int) ∈ (nbrs n b k ++ [(k : Int)]).take j ∧ ¬ caught fr to k q)))]) [] (fun j => j ≤ (nbrs n b k ++ [(k : Int)]).length) (fun j => (nbrs n b k ++ [(k : Int)]).length - j) (0) ?_ ?_ ?_
      · omega
      · refine weak.mk [] [0, 1, 2, 3, 4] rfl rfl ?_ ?_
        repeat' first | exact trivial | exact rfl | exact Iff.rfl | assumption | refine And.intro ?_ ?_
        exact map_congr (ind_congr fun q _ => ⟨.inl, fun h => h.elim id fun h => by simp at h⟩)
      · rintro j hj R2 hR2
        by_cases hj1 : j < (nbrs n b k ++ [(k : Int)]).length
        · have hb := (nbrs_self (n := n) (b := b) (p := k) (by omega)).1 (List.getElem_mem hj1)
          have hb1 := hb.1
          refine tY (by first | omega | assumption | exact rfl | exact Iff.rfl) ?_
          iterate 2 refine Z ?_
          refine jkm (by omega) ?_
          refine gm (by omega) ?_
          refine callW.mk [] 5 _ _ _ (catches_c _ _ (by first | omega | assumption | (simp; omega) | (simp; done)) (by first | omega | assumption | (simp; omega) | (simp; done)) _ _) rfl rfl trivial nofun ?_
          refine twoN (fun _ => ?_) (fun _ => ?_)
          iterate 2 refine Z ?_
          refine jnm (by omega) (by simp; omega) ?_
          iterate 2 refine Z ?_
          refine gm (by simp; omega) ?_
          refine Z ?_
          refine eset' ?_
          refine nw (by omega) (by omega) ?_
          rotate_left
          refine nw (by omega) (by omega) ?_
          rotate_left
          · rename_i h3
            refine hR2 (j + 1) _ _ ?_ (weak.mk [] [0, 1, 2, 3, 4] rfl rfl ?_ ?_)
            repeat' first | exact trivial | exact rfl | exact Iff.rfl | assumption | refine And.intro ?_ ?_
            · exact ⟨by omega, by omega⟩
            · exact map_congr (ind_set.trans (ind_congr fun q hq => by
                rw [mem_take_snoc hj1]
                constructor
                · rintro ((h | h) | h)
                  · exact .inl h
                  · exact .inr ⟨.inl h.1, h.2⟩
                  · have e : (q : Int) = (nbrs n b k ++ [(k : Int)])[j] := toN hb1.1 h
                    exact .inr ⟨.inr e, by rw [e]; exact h3⟩
                · rintro (h | ⟨h | h, h5⟩)
                  · exact .inl (.inl h)
                  · exact .inl (.inr ⟨h, h5⟩)
                  · exact .inr (toN' hb1.1 h)))
          · rename_i h3
            refine hR2 (j + 1) _ _ ?_ (weak.mk [] [0, 1, 2, 3, 4] rfl rfl ?_ ?_)
            repeat' first | exact trivial | exact rfl | exact Iff.rfl | assumption | refine And.intro ?_ ?_
            · exact ⟨by omega, by omega⟩
            · exact map_congr (ind_congr fun q hq => by
                rw [mem_take_snoc hj1]
                constructor
                · rintro (h | h)
                  · exact .inl h
                  · exact .inr ⟨.inl h.1, h.2⟩
                · rintro (h | ⟨h | h, h5⟩)
                  · exact .inl h
                  · exact .inr ⟨h, h5⟩
                  · exact (h5 (by rw [h]; exact h3)).elim)
        · refine tN (by first | omega | assumption | exact fun h => h (by assumption) | exact fun h => h rfl | exact fun h => h Iff.rfl) ?_
          refine nw (by omega) (by omega) ?_
          rotate_left
          refine hR (k + 1) _ _ ?_ (weak.mk [] [0, 1] rfl rfl ?_ ?_)
          repeat' first | exact trivial | exact rfl | exact Iff.rfl | assumption | refine And.intro ?_ ?_
          · exact ⟨by omega, by omega⟩
          · rw [List.take_of_length_le (by omega)]
            exact map_congr (ind_congr fun q hq => nbrs_step (by omega) hdl h2 hq)
    · rename_i h1
      have e : k = n.toNat := by omega
      subst e
      refine doneV.mk [] [1] rfl rfl ?_ ?_ ?_
      repeat' first | exact trivial | exact rfl | exact Iff.rfl | assumption | exact pureI | refine And.intro ?_ ?_
theorem l11Step_c (n : Int) (b : Bool) (hr : road n b) (d fr to : List Int) (hd : bits n d) (hl : fr.length ≤ 1099511627776) (he : fr.length = to.length) : C 208 [rd n b, ints d, ints fr, ints to] [] (.loc 0) [row (stepD n b d fr to)] false := by
  have hdl := hd.2
  refine mkC false false Try.func208 rfl ?_
  refine And.intro nofun ?_
  iterate 4 refine Z ?_
  refine jn (by omega) (by omega) ?_
  refine ixb (by omega) (by omega) ?_
  iterate 2 refine Z ?_
  refine erep0 ?_
  rotate_left
  refine loop_up (β := Nat) (fun k => [(10, i64 k)]) (fun k => [(1, row (ind n.toNat fun q => ∃ p, p < k ∧ runs n b d fr to p q))]) [] (fun k => (k : Int) ≤ n) (fun k => n.toNat - k) (0) ?_ ?_ ?_
  · omega
  · refine weak.mk [] [0, 1] rfl rfl ?_ ?_
    repeat' first | exact trivial | exact rfl | exact Iff.rfl | assumption | refine And.intro ?_ ?_
    exact map_congr ((ind_zero _).trans (ind_congr fun q _ => ⟨False.elim, fun ⟨p, h, _⟩ => by omega⟩))
  · rintro k hk R hR
    refine Z ?_
    refine twoP.mk (fun _ => ?_) (fun _ => ?_)
    iterate 2 refine Z ?_
    refine jkm (by omega) ?_
    refine gm (by omega) ?_
    refine twoP.mk (fun _ => ?_) (fun _ => ?_)
    refine nw (by omega) (by omega) ?_
    iterate 3 rotate_left
    · rename_i h1 h2
      refine hR (k + 1) _ _ ?_ (weak.mk [] [0, 1] rfl rfl ?_ ?_)
      repeat' first | exact trivial | exact rfl | exact Iff.rfl | assumption | refine And.intro ?_ ?_
      · exact ⟨by omega, by omega⟩
      · exact map_congr (ind_congr fun q _ => (skip_step (by omega) h2).symm)
    · rename_i h1 h2
      refine loop_up (β := Nat) (fun j => [(11, i64 j)]) (fun j => [(1, row (ind n.toNat fun q => (∃ p, p < k ∧ runs n b d fr to p q) ∨ (q < j ∧ runs n b d fr to k q)))]) [] (fun j => (j : Int) ≤ n) (fun j => n.toNat - j) (0) ?_ ?_ ?_
      · omega
      · refine weak.mk [] [0, 1] rfl rfl ?_ ?_
        repeat' first | exact trivial | exact rfl | exact Iff.rfl | assumption | refine And.intro ?_ ?_
        exact map_congr (ind_congr fun q _ => ⟨.inl, fun h => h.elim id fun h => by omega⟩)
      · rintro j hj R2 hR2
        refine Z ?_
        refine twoP.mk (fun _ => ?_) (fun _ => ?_)
        refine callW.mk [] 2 _ _ _ (l2Gap_c _ _ _ _ (by first | omega | assumption | (simp; omega) | (simp; done)) (by first | omega | assumption | (simp; omega) | (simp; done)) (by first | omega | assumption | (simp; omega) | (simp; done))) rfl rfl trivial nofun ?_
        refine twoP.mk (fun _ => ?_) (fun _ => ?_)
        refine callW.mk [] 2 _ _ _ (l1Has_c _ (by first | omega | assumption | (simp; omega) | (simp; done)) _) rfl rfl trivial nofun ?_
        refine twoN (fun _ => ?_) (fun _ => ?_)
        refine callW.mk [] 2 _ _ _ (l11Passes_c _ _ (by first | omega | assumption | (simp; omega) | (simp; done)) (by first | omega | assumption | (simp; omega) | (simp; done)) _ _) rfl rfl trivial nofun ?_
        refine twoN (fun _ => ?_) (fun _ => ?_)
        iterate 2 refine Z ?_
        refine jkm (by simp; omega) ?_
        iterate 2 refine Z ?_
        refine gm (by simp; omega) ?_
        refine Z ?_
        refine eset' ?_
        refine nw (by omega) (by omega) ?_
        rotate_left
        refine nw (by omega) (by omega) ?_
        rotate_left
        refine nw (by omega) (by omega) ?_
        rotate_left
        refine nw (by omega) (by omega) ?_
        rotate_left
        refine nw (by omega) (by omega) ?_
        rotate_left
        · rename_i h3 h4 h5 h6
          refine hR2 (j + 1) _ _ ?_ (weak.mk [] [0, 1] rfl rfl ?_ ?_)
          repeat' first | exact trivial | exact rfl | exact Iff.rfl | assumption | refine And.intro ?_ ?_
          · exact ⟨by omega, by omega⟩
          · exact map_congr (ind_set.trans (ind_congr fun q hq => by
              constructor
              · rintro ((h | h) | h)
                · exact .inl h
                · exact .inr ⟨by omega, h.2⟩
                · have h : q = j := h
                  subst h
                  exact .inr ⟨by omega, getD_ne (by omega) h2, h4, fun h => ((caught_iff he).1 h).elim h5 h6⟩
              · rintro (h | ⟨h, h7⟩)
                · exact .inl (.inl h)
                · by_cases e : q = j
                  · exact .inr e
                  · exact .inl (.inr ⟨by omega, h7⟩)))
        · rename_i h3 h4 h5 h6
          refine hR2 (j + 1) _ _ ?_ (weak.mk [] [0, 1] rfl rfl ?_ ?_)
          repeat' first | exact trivial | exact rfl | exact Iff.rfl | assumption | refine And.intro ?_ ?_
          · exact ⟨by omega, by omega⟩
          · exact map_congr (ind_congr fun q hq => or_more fun e h => by subst e; exact h.2.2 ((caught_iff he).2 (.inr h6)))
        · rename_i h3 h4 h5
          refine hR2 (j + 1) _ _ ?_ (weak.mk [] [0, 1] rfl rfl ?_ ?_)
          repeat' first | exact trivial | exact rfl | exact Iff.rfl | assumption | refine And.intro ?_ ?_
          · exact ⟨by omega, by omega⟩
          · exact map_congr (ind_congr fun q hq => or_more fun e h => by subst e; exact h.2.2 ((caught_iff he).2 (.inl h5)))
        · rename_i h3 h4
          refine hR2 (j + 1) _ _ ?_ (weak.mk [] [0, 1] rfl rfl ?_ ?_)
          repeat' first | exact trivial | exact rfl | exact Iff.rfl | assumption | refine And.intro ?_ ?_
          · exact ⟨by omega, by omega⟩
          · exact map_congr (ind_congr fun q hq => or_more fun e h => by subst e; exact h4 h.2.1)
        · rename_i h3
          refine hR (k + 1) _ _ ?_ (weak.mk [] [0, 1] rfl rfl ?_ ?_)
          repeat' first | exact trivial | exact rfl | exact Iff.rfl | assumption | refine And.intro ?_ ?_
          · exact ⟨by omega, by omega⟩
          · exact map_congr (ind_congr fun q hq => by
              rw [one_step]
              exact ⟨fun h => h.imp id And.right, fun h => h.imp id fun h => ⟨by omega, h⟩⟩)
    · rename_i h1
      have e : k = n.toNat := by omega
      subst e
      refine doneV.mk [] [1] rfl rfl ?_ ?_ ?_
      repeat' first | exact trivial | exact rfl | exact Iff.rfl | assumption | exact pureI | refine And.intro ?_ ?_
end Sx
