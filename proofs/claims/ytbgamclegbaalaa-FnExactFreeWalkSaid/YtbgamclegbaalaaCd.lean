/- Contracts: places at a time, free walks. -/
import Derived.Test.YtbgamclegbaalaaMxD
import Derived.Test.YtbgamclegbaalaaCc
set_option linter.all false
namespace Sx
open Go Go.Proofs
set_option maxRecDepth 100000
set_option maxHeartbeats 4000000
set_option linter.unusedSimpArgs false
theorem at_c (w : List Int) (t : Int) (hw : 1 ≤ w.length ∧ w.length ≤ 61) (ht : 0 ≤ t) : C 118 [ints w, i64 t] [] (i64 (atZ w t)) [] false := by
  refine mkC false false Try.func118 rfl ?_
  refine And.intro nofun ?_
  refine lm ?_
  refine nw (by omega) (by omega) ?_
  refine nr ?_
  iterate 2 refine Z ?_
  refine jnm (by omega) (by omega) ?_
  refine gm (by omega) ?_
  rotate_left
  refine dv0 rfl ?_
  exact ⟨rfl, atZ_get _⟩
theorem l2At_c (w : List Int) (t : Int) (hw : 1 ≤ w.length ∧ w.length ≤ 61) (ht : 0 ≤ t) : C 126 [ints w, i64 t] [] (i64 (atZ w t)) [] false := by
  refine mkC false false Try.func126 rfl ?_
  refine And.intro nofun ?_
  refine lm ?_
  refine nw (by omega) (by omega) ?_
  refine callW.mk [] 0 _ _ _ (least_c _ _) rfl rfl trivial nofun ?_
  iterate 2 refine Z ?_
  refine jnm (by omega) (by omega) ?_
  refine gm (by omega) ?_
  rotate_left
  refine dv0 rfl ?_
  exact ⟨rfl, atZ_get _⟩
theorem placesAt_c (L : List (List Int)) (t : Int) (hL : L.length ≤ 1099511627775) (hw : lenOk L) (ht : 0 ≤ t) : C 77 [intss L, i64 t] [] (.loc 0) [row (plAt L t)] false := by
  refine mkC false false Try.func77 rfl ?_
  refine And.intro nofun ?_
  iterate 2 refine Z ?_
  refine lm ?_
  rotate_left
  refine loop_up (β := Nat) (fun k => [(5, .loc 0), (11, i64 k)]) (fun k => [(0, row (plAt (L.take k) t))]) [1] (fun k => k ≤ L.length) (fun k => L.length - k) (0) ?_ ?_ ?_
  · omega
  · refine weak.mk [1] [0] rfl rfl ?_ ?_
    repeat' first | exact trivial | exact rfl | exact Iff.rfl | assumption | refine And.intro ?_ ?_
  · rintro k hk R hR
    have hl : (plAt (L.take k) t).length = k := by simp; omega
    refine twoP.mk (fun _ => ?_) (fun _ => ?_)
    iterate 2 refine Z ?_
    refine jkm (by omega) ?_
    refine gm (by omega) ?_
    refine callW.mk [] 1 _ _ _ ((at_c L[k] t (hw _ (List.getElem_mem _)) ht)) rfl rfl (by repeat' first | exact trivial | assumption | exact knownSS | exact knownApp knownSS knownNil | refine And.intro ?_ ?_) nofun ?_
    iterate 10 refine Z ?_
    refine lem1 (by omega) ?_
    refine ea ?_
    refine nw (by omega) (by omega) ?_
    iterate 2 rotate_left
    · rename_i h1
      refine hR (k + 1) _ _ ?_ (weak.mk [] [2] rfl rfl ?_ ?_)
      repeat' first | exact trivial | exact rfl | exact Iff.rfl | assumption | refine And.intro ?_ ?_
      · exact ⟨by omega, by omega⟩
      · exact map_congr (plAt_take (by omega)).symm
    · rename_i h1
      refine doneV.mk [] [0] rfl rfl ?_ ?_ ?_
      repeat' first | exact trivial | exact rfl | exact Iff.rfl | assumption | exact pureI | refine And.intro ?_ ?_
      rw [take_all h1]
theorem l11At_c (L : List (List Int)) (t : Int) (hL : L.length ≤ 1099511627775) (hw : lenOk L) (ht : 0 ≤ t) : C 106 [intss L, i64 t] [] (.loc 0) [row (plAt L t)] false := by
  refine mkC false false Try.func106 rfl ?_
  refine And.intro nofun ?_
  iterate 2 refine Z ?_
  rotate_left
  refine loop_up (β := Nat) (fun k => [(5, .loc 0), (6, i64 k)]) (fun k => [(0, row (plAt (L.take k) t))]) [1] (fun k => k ≤ L.length) (fun k => L.length - k) (0) ?_ ?_ ?_
  · omega
  · refine weak.mk [1] [0] rfl rfl ?_ ?_
    repeat' first | exact trivial | exact rfl | exact Iff.rfl | assumption | refine And.intro ?_ ?_
  · rintro k hk R hR
    have hl : (plAt (L.take k) t).length = k := by simp; omega
    refine lm ?_
    refine twoP.mk (fun _ => ?_) (fun _ => ?_)
    iterate 2 refine Z ?_
    refine jkm (by omega) ?_
    refine gm (by omega) ?_
    refine callW.mk [] 1 _ _ _ ((l2At_c L[k] t (hw _ (List.getElem_mem _)) ht)) rfl rfl (by repeat' first | exact trivial | assumption | exact knownSS | exact knownApp knownSS knownNil | refine And.intro ?_ ?_) nofun ?_
    iterate 10 refine Z ?_
    refine lem1 (by omega) ?_
    refine ea ?_
    refine nw (by omega) (by omega) ?_
    iterate 2 rotate_left
    · rename_i h1
      refine hR (k + 1) _ _ ?_ (weak.mk [] [2] rfl rfl ?_ ?_)
      repeat' first | exact trivial | exact rfl | exact Iff.rfl | assumption | refine And.intro ?_ ?_
      · exact ⟨by omega, by omega⟩
      · exact map_congr (plAt_take (by omega)).symm
    · rename_i h1
      refine doneV.mk [] [0] rfl rfl ?_ ?_ ?_
      repeat' first | exact trivial | exact rfl | exact Iff.rfl | assumption | exact pureI | refine And.intro ?_ ?_
      rw [take_all h1]
theorem longest_c (L : List (List Int)) (hL : L.length ≤ 1099511627775) (hw : lenOk L) : C 75 [intss L] [] (i64 (lng L)) [] false := by
  refine mkC false false Try.func75 rfl ?_
  refine And.intro nofun ?_
  refine lm ?_
  rotate_left
  refine loop_up (β := Nat) (fun k => [(3, i64 (lng (L.take k))), (8, i64 k)]) (fun k => []) [] (fun k => k ≤ L.length) (fun k => L.length - k) (0) ?_ ?_ ?_
  · omega
  · refine weak.mk [] [] rfl rfl ?_ ?_
    repeat' first | exact trivial | exact rfl | exact Iff.rfl | assumption | refine And.intro ?_ ?_
  · rintro k hk R hR
    refine twoP.mk (fun _ => ?_) (fun _ => ?_)
    iterate 2 refine Z ?_
    refine jkm (by omega) ?_
    refine gm (by omega) ?_
    refine lm ?_
    refine nr ?_
    refine nw (by omega) (by omega) ?_
    iterate 2 rotate_left
    · rename_i h1
      refine hR (k + 1) _ _ ?_ (weak.mk [] [] rfl rfl ?_ ?_)
      repeat' first | exact trivial | exact rfl | exact Iff.rfl | assumption | refine And.intro ?_ ?_
      · exact ⟨by omega, by omega⟩
      · exact (lng_take (by omega)).symm
    · rename_i h1
      refine dv0 rfl ?_
      exact ⟨rfl, by rw [take_all h1]⟩
theorem l11Last_c (L : List (List Int)) (hL : L.length ≤ 1099511627775) (h0 : 1 ≤ L.length) (hw : lenOk L) : C 72 [intss L] [] (i64 (lng L - 1)) [] false := by
  have hb := lng_bd L hw
  refine mkC false false Try.func72 rfl ?_
  refine And.intro nofun ?_
  rotate_left
  refine loop_up (β := Nat) (fun k => [(3, i64 (max 0 (lng (L.take k) - 1))), (4, i64 k)]) (fun k => []) [] (fun k => k ≤ L.length) (fun k => L.length - k) (0) ?_ ?_ ?_
  · omega
  · refine weak.mk [] [] rfl rfl ?_ ?_
    repeat' first | exact trivial | exact rfl | exact Iff.rfl | assumption | refine And.intro ?_ ?_
  · rintro k hk R hR
    have hb2 := lng_bd (L.take k) (lenOk_take hw k)
    have hb3 : ∀ h : k < L.length, 1 ≤ L[k].length ∧ L[k].length ≤ 61 := fun h => hw _ (List.getElem_mem h)
    by_cases hkl : k < L.length
    · have hb4 := hb3 hkl
      refine lm ?_
      refine tY (by first | omega | assumption | exact rfl | exact Iff.rfl) ?_
      iterate 2 refine Z ?_
      refine jkm (by omega) ?_
      refine gm (by omega) ?_
      refine lm ?_
      refine nw (by omega) (by omega) ?_
      refine callW.mk [] 0 _ _ _ (most_c _ _) rfl rfl trivial nofun ?_
      refine nw (by omega) (by omega) ?_
      rotate_left
      have := lng_take hkl
      refine hR (k + 1) _ _ ?_ (weak.mk [] [] rfl rfl ?_ ?_)
      repeat' first | exact trivial | exact rfl | exact Iff.rfl | assumption | refine And.intro ?_ ?_
      · exact ⟨by omega, by omega⟩
      · omega
    refine lm ?_
    refine tN (by first | omega | assumption | exact fun h => h (by assumption) | exact fun h => h rfl | exact fun h => h Iff.rfl) ?_
    rotate_left
    · refine dv0 rfl ?_
      rw [List.take_of_length_le (by omega)]
      have := hb.2.2 (by intro e; subst e; simp at h0)
      exact ⟨rfl, by omega⟩
theorem l11Free_c (L : List (List Int)) (w : List Int) (hL : L.length ≤ 1099511627775) (hw : lenOk L) (hl : w.length ≤ 61) : C 73 [intss L, ints w] [] (pr (sFree L w)) [] false := by
  refine mkC false false Try.func73 rfl ?_
  refine And.intro nofun ?_
  rotate_left
  refine loop_up (β := Nat) (fun k => [(5, i64 k), (4, .unk)]) (fun k => []) [] (fun k => k ≤ w.length ∧ ∀ (t : Nat) (h : t < k) (h2 : t < w.length), w[t] ∉ plAt L t ∧ ∀ _ : 0 < t, ¬ passes (plAt L ((t : Int) - 1)) (plAt L t) (w[t - 1]'(by omega)) w[t]) (fun k => w.length - k) (0) ?_ ?_ ?_
  · exact ⟨by omega, fun t h => by omega⟩
  · refine weak.mk [] [] rfl rfl ?_ ?_
    repeat' first | exact trivial | exact rfl | exact Iff.rfl | assumption | refine And.intro ?_ ?_
  · rintro k ⟨hk, hi⟩ R hR
    have e1 := plAt_len L k
    have e2 := plAt_len L ((k : Int) - 1)
    by_cases hk0 : 0 < k
    · refine lm ?_
      refine twoP.mk (fun _ => ?_) (fun _ => ?_)
      refine callW.mk [] 0 _ _ _ (l11At_c _ _ (by first | omega | assumption | (simp; omega) | (simp; done)) (by first | omega | assumption | (simp; omega) | (simp; done)) (by first | omega | assumption | (simp; omega) | (simp; done))) rfl rfl trivial nofun ?_
      refine drawP.mk 27 (Z (Z (Z (Z ?_))))
      apply exP.mk
      exact rfl
      apply exP.mk
      exact rfl
      apply exP.mk
      exact rfl
      apply exP.mk
      iterate 2 refine Z ?_
      refine jkm (by omega) ?_
      exact rfl
      apply exP.mk
      refine gm (by omega) ?_
      exact rfl
      apply exP.mk
      refine callP.mk _ _ _ (l1Has_c _ (by first | omega | assumption | (simp; omega) | (simp; done)) _) trivial nofun trivial ?_
      exact rfl
      apply exP.mk
      exact rfl
      refine twoP.mk (fun _ => ?_) (fun _ => ?_)
      rotate_left
      apply exP.mk
      exact rfl
      apply exP.mk
      exact rfl
      apply exP.mk
      exact rfl
      refine tY (by first | omega | assumption | exact rfl | exact Iff.rfl) ?_
      apply exP.mk
      exact rfl
      apply exP.mk
      exact rfl
      apply exP.mk
      refine nw (by omega) (by omega) ?_
      exact rfl
      apply exP.mk
      refine callP.mk _ _ _ (l11At_c _ _ (by first | omega | assumption | (simp; omega) | (simp; done)) (by first | omega | assumption | (simp; omega) | (simp; done)) (by first | omega | assumption | (simp; omega) | (simp; done))) trivial nofun trivial ?_
      exact rfl
      apply exP.mk
      exact rfl
      apply exP.mk
      exact rfl
      apply exP.mk
      exact rfl
      apply exP.mk
      refine nw (by omega) (by omega) ?_
      exact rfl
      apply exP.mk
      iterate 2 refine Z ?_
      refine jmm (by omega) (by omega) ?_
      exact rfl
      apply exP.mk
      refine gm (by omega) ?_
      exact rfl
      apply exP.mk
      exact rfl
      apply exP.mk
      exact rfl
      apply exP.mk
      iterate 2 refine Z ?_
      refine jkm (by omega) ?_
      exact rfl
      apply exP.mk
      refine gm (by omega) ?_
      exact rfl
      apply exP.mk
      refine callP.mk _ _ _ (l11Passes_c _ _ (by first | omega | assumption | (simp; omega) | (simp; done)) (by first | omega | assumption | (simp; omega) | (simp; done)) _ _) trivial nofun trivial ?_
      exact rfl
      refine twoP.mk (fun _ => ?_) (fun _ => ?_)
      rotate_left
      refine nw (by omega) (by omega) ?_
      iterate 2 rotate_left
      · rename_i h1 h2
        refine dv0 rfl ?_
        exact fun h => (h k (by omega)).1 h2
      · rename_i h1 h2 h3
        refine dv0 rfl ?_
        exact fun h => (h k (by omega)).2 hk0 h3
      · rename_i h1 h2 h3
        refine hR (k + 1) _ _ ?_ (weak.mk [] [] rfl rfl ?_ ?_)
        repeat' first | exact trivial | exact rfl | exact Iff.rfl | assumption | refine And.intro ?_ ?_
        exact ⟨⟨by omega, fun t ht hl => by
          by_cases e : t = k
          · subst e; exact ⟨h2, fun _ => h3⟩
          · exact hi t (by omega) hl⟩, by omega⟩
      · rename_i h1
        refine dv0 rfl ?_
        exact fun t ht => hi t (by omega) ht
    · refine lm ?_
      refine twoP.mk (fun _ => ?_) (fun _ => ?_)
      refine callW.mk [] 0 _ _ _ (l11At_c _ _ (by first | omega | assumption | (simp; omega) | (simp; done)) (by first | omega | assumption | (simp; omega) | (simp; done)) (by first | omega | assumption | (simp; omega) | (simp; done))) rfl rfl trivial nofun ?_
      refine drawP.mk 27 (Z (Z (Z (Z ?_))))
      apply exP.mk
      exact rfl
      apply exP.mk
      exact rfl
      apply exP.mk
      exact rfl
      apply exP.mk
      iterate 2 refine Z ?_
      refine jkm (by omega) ?_
      exact rfl
      apply exP.mk
      refine gm (by omega) ?_
      exact rfl
      apply exP.mk
      refine callP.mk _ _ _ (l1Has_c _ (by first | omega | assumption | (simp; omega) | (simp; done)) _) trivial nofun trivial ?_
      exact rfl
      apply exP.mk
      exact rfl
      refine twoP.mk (fun _ => ?_) (fun _ => ?_)
      rotate_left
      apply exP.mk
      exact rfl
      apply exP.mk
      exact rfl
      apply exP.mk
      exact rfl
      refine tN (by first | omega | assumption | exact fun h => h (by assumption) | exact fun h => h rfl | exact fun h => h Iff.rfl) ?_
      refine nw (by omega) (by omega) ?_
      iterate 2 rotate_left
      · rename_i h1 h2
        refine dv0 rfl ?_
        exact fun h => (h k (by omega)).1 h2
      · rename_i h1 h2
        refine hR (k + 1) _ _ ?_ (weak.mk [] [] rfl rfl ?_ ?_)
        repeat' first | exact trivial | exact rfl | exact Iff.rfl | assumption | refine And.intro ?_ ?_
        exact ⟨⟨by omega, fun t ht hl => by
          by_cases e : t = k
          · subst e; exact ⟨h2, fun h => (hk0 h).elim⟩
          · exact hi t (by omega) hl⟩, by omega⟩
      · rename_i h1
        refine dv0 rfl ?_
        exact fun t ht => hi t (by omega) ht
theorem sIsFree_c (n : Int) (b : Bool) (L : List (List Int)) (w : List Int) (hL : L.length ≤ 1099511627775) (hl : ∀ l ∈ L, l.length ≤ 1099511627776) (hw : w.length ≤ 1099511627776) : C 32 [rd n b, intss L, ints w] [] (.tuple [pr (isFree n b L w), pr (chasers n b L)]) [] false := by
  refine mkC false false Try.func32 rfl ?_
  refine And.intro nofun ?_
  by_cases hc : chasers n b L
  · have hlo := chasers_len hc
    have hL1 := hc.2.2
    have hb := lng_bd L hlo
    refine Z ?_
    refine callW.mk [] 1 _ _ _ (l11Chasers_c _ _ _ (by first | omega | assumption | (simp; omega) | (simp; done) | exact hl _ (List.getElem_mem _) | exact hlo _ (List.getElem_mem _)) (by first | omega | assumption | (simp; omega) | (simp; done) | exact hl _ (List.getElem_mem _) | exact hlo _ (List.getElem_mem _))) rfl rfl trivial nofun ?_
    refine tN (by first | omega | assumption | exact fun h => h (by assumption) | exact fun h => h rfl | exact fun h => h Iff.rfl) ?_
    refine callW.mk [] 1 _ _ _ (l2Walk_c _ _ _ (by first | omega | assumption | (simp; omega) | (simp; done) | exact hl _ (List.getElem_mem _) | exact hlo _ (List.getElem_mem _))) rfl rfl trivial nofun ?_
    refine twoP.mk (fun _ => ?_) (fun _ => ?_)
    refine lm ?_
    refine callW.mk [] 1 _ _ _ (l11Last_c _ (by first | omega | assumption | (simp; omega) | (simp; done) | exact hl _ (List.getElem_mem _) | exact hlo _ (List.getElem_mem _)) (by first | omega | assumption | (simp; omega) | (simp; done) | exact hl _ (List.getElem_mem _) | exact hlo _ (List.getElem_mem _)) (by first | omega | assumption | (simp; omega) | (simp; done) | exact hl _ (List.getElem_mem _) | exact hlo _ (List.getElem_mem _))) rfl rfl trivial nofun ?_
    refine nw (by omega) (by omega) ?_
    refine twoP.mk (fun _ => ?_) (fun _ => ?_)
    refine callW.mk [] 1 _ _ _ (l11Free_c _ _ (by first | omega | assumption | (simp; omega) | (simp; done) | exact hl _ (List.getElem_mem _) | exact hlo _ (List.getElem_mem _)) (by first | omega | assumption | (simp; omega) | (simp; done) | exact hl _ (List.getElem_mem _) | exact hlo _ (List.getElem_mem _)) (by first | omega | assumption | (simp; omega) | (simp; done) | exact hl _ (List.getElem_mem _) | exact hlo _ (List.getElem_mem _))) rfl rfl trivial nofun ?_
    iterate 3 rotate_left
    · rename_i h1 h2
      refine dv0 rfl ?_
      exact ⟨⟨fun h => ⟨hc, h1.2, by omega, h⟩, fun h => h.2.2.2⟩, hc, trivial⟩
    · rename_i h1 h2
      refine dv0 rfl ?_
      exact ⟨fun h => h2 (by have := h.2.2.1; omega), hc, trivial⟩
    · rename_i h1
      refine dv0 rfl ?_
      exact ⟨fun h => h1 ⟨hc.1, h.2.1⟩, hc, trivial⟩
  · refine Z ?_
    refine callW.mk [] 1 _ _ _ (l11Chasers_c _ _ _ (by first | omega | assumption | (simp; omega) | (simp; done) | exact hl _ (List.getElem_mem _)) (by first | omega | assumption | (simp; omega) | (simp; done) | exact hl _ (List.getElem_mem _))) rfl rfl trivial nofun ?_
    refine tY (by first | omega | assumption | exact rfl | exact Iff.rfl) ?_
    rotate_left
    refine dv0 rfl ?_
    exact ⟨fun h => hc h.1, hc, trivial⟩
theorem IsFree_c (n : Int) (b : Bool) (L : List (List Int)) (w : List Int) (hL : L.length ≤ 1099511627775) (hl : ∀ l ∈ L, l.length ≤ 1099511627776) (hw : w.length ≤ 1099511627776) : C 33 [rd n b, intss L, ints w] [] (.tuple [pr (isFree n b L w), pr (chasers n b L)]) [] false := by
  refine mkC false false Try.func33 rfl ?_
  refine And.intro nofun ?_
  by_cases hc : chasers n b L
  · have hlo := chasers_len hc
    have hL1 := hc.2.2
    have hr := hc.1
    by_cases hwk : walk n b w
    · have hw1 := hwk.1
      have e1 := plAt_len L 0
      refine Z ?_
      refine callW.mk [] 1 _ _ _ (areChasers_c _ _ _ (by first | omega | assumption | (simp; omega) | (simp; done) | exact hl _ (List.getElem_mem _) | exact hlo _ (List.getElem_mem _)) (by first | omega | assumption | (simp; omega) | (simp; done) | exact hl _ (List.getElem_mem _) | exact hlo _ (List.getElem_mem _))) rfl rfl trivial nofun ?_
      refine tN (by first | omega | assumption | exact fun h => h (by assumption) | exact fun h => h rfl | exact fun h => h Iff.rfl) ?_
      refine drawP.mk 19 (Z (Z (Z (Z ?_))))
      apply exP.mk
      exact rfl
      apply exP.mk
      exact rfl
      apply exP.mk
      refine callP.mk _ _ _ (isWalk_c _ _ (by first | omega | assumption | (simp; omega) | (simp; done) | exact hl _ (List.getElem_mem _) | exact hlo _ (List.getElem_mem _)) _ (by first | omega | assumption | (simp; omega) | (simp; done) | exact hl _ (List.getElem_mem _) | exact hlo _ (List.getElem_mem _))) trivial nofun trivial ?_
      exact rfl
      apply exP.mk
      exact rfl
      apply exP.mk
      exact rfl
      refine tN (by first | omega | assumption | exact fun h => h (by assumption) | exact fun h => h rfl | exact fun h => h Iff.rfl) ?_
      apply exP.mk
      exact rfl
      apply exP.mk
      refine lm ?_
      exact rfl
      apply exP.mk
      exact rfl
      apply exP.mk
      refine callP.mk _ _ _ (longest_c _ (by first | omega | assumption | (simp; omega) | (simp; done) | exact hl _ (List.getElem_mem _) | exact hlo _ (List.getElem_mem _)) (by first | omega | assumption | (simp; omega) | (simp; done) | exact hl _ (List.getElem_mem _) | exact hlo _ (List.getElem_mem _))) trivial nofun trivial ?_
      exact rfl
      apply exP.mk
      exact rfl
      apply exP.mk
      exact rfl
      refine twoN (fun _ => ?_) (fun _ => ?_)
      rotate_left
      apply exP.mk
      exact rfl
      apply exP.mk
      refine callP.mk _ _ _ (placesAt_c _ _ (by first | omega | assumption | (simp; omega) | (simp; done) | exact hl _ (List.getElem_mem _) | exact hlo _ (List.getElem_mem _)) (by first | omega | assumption | (simp; omega) | (simp; done) | exact hl _ (List.getElem_mem _) | exact hlo _ (List.getElem_mem _)) (by first | omega | assumption | (simp; omega) | (simp; done) | exact hl _ (List.getElem_mem _) | exact hlo _ (List.getElem_mem _))) trivial nofun trivial ?_
      exact rfl
      apply exP.mk
      exact rfl
      apply exP.mk
      iterate 2 refine Z ?_
      refine idxN.mk 0 (by omega) (by simp; omega) rfl ?_
      exact rfl
      apply exP.mk
      refine gm (by omega) ?_
      exact rfl
      apply exP.mk
      refine callP.mk _ _ _ (Contains_c _ (by first | omega | assumption | (simp; omega) | (simp; done) | exact hl _ (List.getElem_mem _) | exact hlo _ (List.getElem_mem _)) _) trivial nofun trivial ?_
      exact rfl
      refine twoP.mk (fun _ => ?_) (fun _ => ?_)
      rotate_left
      refine lm ?_
      refine nw (by omega) (by omega) ?_
      rotate_left
      · rename_i h1
        refine dv0 rfl ?_
        exact ⟨fun h => h1 h.2.2.1, hc, trivial⟩
      · rename_i h1 h2
        refine dv0 rfl ?_
        exact ⟨fun h => ((sFree_iff (by omega)).1 h.2.2.2).1 h2, hc, trivial⟩
      · rename_i h1 h2
        refine loop_up (β := Nat) (fun k => [(35, i64 k), (6, .unk), (7, .unk)]) (fun k => []) [] (fun k => k < w.length ∧ ∀ (t : Nat) (h : t + 1 < w.length), t < k → ¬ caught (plAt L t) (plAt L ((t : Int) + 1)) w[t] w[t + 1]) (fun k => w.length - k) (0) ?_ ?_ ?_
        · exact ⟨by omega, fun t h => by omega⟩
        · refine weak.mk [] [0] rfl rfl ?_ ?_
          repeat' first | exact trivial | exact rfl | exact Iff.rfl | assumption | refine And.intro ?_ ?_
        · rintro k ⟨hk, hi⟩ R hR
          have e2 := plAt_len L k
          have e3 := plAt_len L ((k : Int) + 1)
          refine twoP.mk (fun _ => ?_) (fun _ => ?_)
          refine drawP.mk 17 (Z (Z (Z (Z ?_))))
          apply exP.mk
          exact rfl
          apply exP.mk
          exact rfl
          apply exP.mk
          refine callP.mk _ _ _ (placesAt_c _ _ (by first | omega | assumption | (simp; omega) | (simp; done) | exact hl _ (List.getElem_mem _) | exact hlo _ (List.getElem_mem _)) (by first | omega | assumption | (simp; omega) | (simp; done) | exact hl _ (List.getElem_mem _) | exact hlo _ (List.getElem_mem _)) (by first | omega | assumption | (simp; omega) | (simp; done) | exact hl _ (List.getElem_mem _) | exact hlo _ (List.getElem_mem _))) trivial nofun trivial ?_
          exact rfl
          apply exP.mk
          exact rfl
          apply exP.mk
          exact rfl
          apply exP.mk
          refine nw (by omega) (by omega) ?_
          exact rfl
          apply exP.mk
          refine callP.mk _ _ _ (placesAt_c _ _ (by first | omega | assumption | (simp; omega) | (simp; done) | exact hl _ (List.getElem_mem _) | exact hlo _ (List.getElem_mem _)) (by first | omega | assumption | (simp; omega) | (simp; done) | exact hl _ (List.getElem_mem _) | exact hlo _ (List.getElem_mem _)) (by first | omega | assumption | (simp; omega) | (simp; done) | exact hl _ (List.getElem_mem _) | exact hlo _ (List.getElem_mem _))) trivial nofun trivial ?_
          exact rfl
          apply exP.mk
          exact rfl
          apply exP.mk
          exact rfl
          apply exP.mk
          iterate 2 refine Z ?_
          refine jkm (by omega) ?_
          exact rfl
          apply exP.mk
          refine gm (by omega) ?_
          exact rfl
          apply exP.mk
          exact rfl
          apply exP.mk
          exact rfl
          apply exP.mk
          refine nw (by omega) (by omega) ?_
          exact rfl
          apply exP.mk
          iterate 2 refine Z ?_
          refine jpm (by omega) ?_
          exact rfl
          apply exP.mk
          refine gm (by omega) ?_
          exact rfl
          apply exP.mk
          refine callP.mk _ _ _ (catches_c _ _ (by first | omega | assumption | (simp; omega) | (simp; done) | exact hl _ (List.getElem_mem _) | exact hlo _ (List.getElem_mem _)) (by first | omega | assumption | (simp; omega) | (simp; done) | exact hl _ (List.getElem_mem _) | exact hlo _ (List.getElem_mem _)) _ _) trivial nofun trivial ?_
          exact rfl
          refine twoP.mk (fun _ => ?_) (fun _ => ?_)
          rotate_left
          refine nw (by omega) (by omega) ?_
          iterate 2 rotate_left
          · rename_i h3 h4
            refine dv0 rfl ?_
            exact ⟨fun h => ((sFree_iff (by omega)).1 h.2.2.2).2 k (by omega) h4, hc, trivial⟩
          · rename_i h3 h4
            refine hR (k + 1) _ _ ?_ (weak.mk [] [0] rfl rfl ?_ ?_)
            repeat' first | exact trivial | exact rfl | exact Iff.rfl | assumption | refine And.intro ?_ ?_
            exact ⟨⟨by omega, fun t hl ht => by
              by_cases e : t = k
              · subst e; exact h4
              · exact hi t hl (by omega)⟩, by omega⟩
          · rename_i h3
            refine dv0 rfl ?_
            exact ⟨⟨hc, hwk, h1, (sFree_iff (by omega)).2 ⟨h2, fun t ht => hi t ht (by omega)⟩⟩, hc, trivial⟩
    · refine Z ?_
      refine callW.mk [] 1 _ _ _ (areChasers_c _ _ _ (by first | omega | assumption | (simp; omega) | (simp; done) | exact hl _ (List.getElem_mem _) | exact hlo _ (List.getElem_mem _)) (by first | omega | assumption | (simp; omega) | (simp; done) | exact hl _ (List.getElem_mem _) | exact hlo _ (List.getElem_mem _))) rfl rfl trivial nofun ?_
      refine tN (by first | omega | assumption | exact fun h => h (by assumption) | exact fun h => h rfl | exact fun h => h Iff.rfl) ?_
      refine drawP.mk 19 (Z (Z (Z (Z ?_))))
      apply exP.mk
      exact rfl
      apply exP.mk
      exact rfl
      apply exP.mk
      refine callP.mk _ _ _ (isWalk_c _ _ (by first | omega | assumption | (simp; omega) | (simp; done) | exact hl _ (List.getElem_mem _) | exact hlo _ (List.getElem_mem _)) _ (by first | omega | assumption | (simp; omega) | (simp; done) | exact hl _ (List.getElem_mem _) | exact hlo _ (List.getElem_mem _))) trivial nofun trivial ?_
      exact rfl
      apply exP.mk
      exact rfl
      apply exP.mk
      exact rfl
      refine tY (by first | omega | assumption | exact rfl | exact Iff.rfl) ?_
      apply exP.mk
      exact rfl
      rotate_left
      refine dv0 rfl ?_
      exact ⟨fun h => hwk h.2.1, hc, trivial⟩
  · refine Z ?_
    refine callW.mk [] 1 _ _ _ (areChasers_c _ _ _ (by first | omega | assumption | (simp; omega) | (simp; done) | exact hl _ (List.getElem_mem _)) (by first | omega | assumption | (simp; omega) | (simp; done) | exact hl _ (List.getElem_mem _))) rfl rfl trivial nofun ?_
    refine tY (by first | omega | assumption | exact rfl | exact Iff.rfl) ?_
    rotate_left
    refine dv0 rfl ?_
    exact ⟨fun h => hc h.1, hc, trivial⟩
theorem FnExactIsFree_c (n : Int) (b : Bool) (L : List (List Int)) (w : List Int) (hL : L.length ≤ 9223372036854775807) (hl : ∀ l ∈ L, l.length ≤ 9223372036854775807) (hw : w.length ≤ 9223372036854775807) : C 7 [rd n b, intss L, ints w] [] .tt [] false := by
  refine mkC false false Try.func7 rfl ?_
  refine And.intro nofun ?_
  by_cases hs : szSS L 1048576 < 0
  · refine Z ?_
    refine lm ?_
    refine twoP.mk (fun _ => ?_) (fun _ => ?_)
    rotate_left
    refine callW.mk [] 1 _ _ _ (szIntSS_c _ (by first | omega | assumption | (simp; omega) | (simp; done) | exact hl _ (List.getElem_mem _)) (by first | omega | assumption | (simp; omega) | (simp; done) | exact hl _ (List.getElem_mem _)) _ (by first | omega | assumption | (simp; omega) | (simp; done) | exact hl _ (List.getElem_mem _)) (by first | omega | assumption | (simp; omega) | (simp; done) | exact hl _ (List.getElem_mem _))) rfl rfl trivial nofun ?_
    refine tY (by first | omega | assumption | exact rfl | exact Iff.rfl) ?_
    rotate_left
    all_goals exact dv0 rfl trivial
  · obtain ⟨h1, h2⟩ := szSS_ok hs
    have h3 : ∀ l ∈ L, l.length ≤ 1099511627776 := fun l h => by have := h2 l h; omega
    refine Z ?_
    refine lm ?_
    refine twoP.mk (fun _ => ?_) (fun _ => ?_)
    rotate_left
    refine callW.mk [] 1 _ _ _ (szIntSS_c _ (by first | omega | assumption | (simp; omega) | (simp; done) | exact hl _ (List.getElem_mem _) | exact h2 _ (List.getElem_mem _) | exact h3 _ (List.getElem_mem _)) (by first | omega | assumption | (simp; omega) | (simp; done) | exact hl _ (List.getElem_mem _) | exact h2 _ (List.getElem_mem _) | exact h3 _ (List.getElem_mem _)) _ (by first | omega | assumption | (simp; omega) | (simp; done) | exact hl _ (List.getElem_mem _) | exact h2 _ (List.getElem_mem _) | exact h3 _ (List.getElem_mem _)) (by first | omega | assumption | (simp; omega) | (simp; done) | exact hl _ (List.getElem_mem _) | exact h2 _ (List.getElem_mem _) | exact h3 _ (List.getElem_mem _))) rfl rfl trivial nofun ?_
    refine tN (by first | omega | assumption | exact fun h => h (by assumption) | exact fun h => h rfl | exact fun h => h Iff.rfl) ?_
    refine callW.mk [] 1 _ _ _ (toRoad_c _ _) rfl rfl trivial nofun ?_
    refine callW.mk [] 1 _ _ _ (toIntSS_c _ (by first | omega | assumption | (simp; omega) | (simp; done) | exact hl _ (List.getElem_mem _) | exact h2 _ (List.getElem_mem _) | exact h3 _ (List.getElem_mem _)) (by first | omega | assumption | (simp; omega) | (simp; done) | exact hl _ (List.getElem_mem _) | exact h2 _ (List.getElem_mem _) | exact h3 _ (List.getElem_mem _))) rfl rfl trivial nofun ?_
    refine callW.mk [] 2 _ _ _ (toIntS_c _ (by first | omega | assumption | (simp; omega) | (simp; done) | exact hl _ (List.getElem_mem _) | exact h2 _ (List.getElem_mem _) | exact h3 _ (List.getElem_mem _))) rfl rfl (by repeat' first | exact trivial | assumption | exact knownSS | exact knownApp knownSS knownNil | refine And.intro ?_ ?_) nofun ?_
    refine callW.mk [] 3 _ _ _ (sIsFree_c _ _ _ _ (by first | omega | assumption | (simp; omega) | (simp; done) | exact hl _ (List.getElem_mem _) | exact h2 _ (List.getElem_mem _) | exact h3 _ (List.getElem_mem _)) (by first | omega | assumption | (simp; omega) | (simp; done) | exact hl _ (List.getElem_mem _) | exact h2 _ (List.getElem_mem _) | exact h3 _ (List.getElem_mem _)) (by first | omega | assumption | (simp; omega) | (simp; done) | exact hl _ (List.getElem_mem _) | exact h2 _ (List.getElem_mem _) | exact h3 _ (List.getElem_mem _))) rfl rfl (by repeat' first | exact trivial | assumption | exact knownSS | exact knownApp knownSS knownNil | refine And.intro ?_ ?_) nofun ?_
    refine callW.mk [] 3 _ _ _ (toIntSS_c _ (by first | omega | assumption | (simp; omega) | (simp; done) | exact hl _ (List.getElem_mem _) | exact h2 _ (List.getElem_mem _) | exact h3 _ (List.getElem_mem _)) (by first | omega | assumption | (simp; omega) | (simp; done) | exact hl _ (List.getElem_mem _) | exact h2 _ (List.getElem_mem _) | exact h3 _ (List.getElem_mem _))) rfl rfl (by repeat' first | exact trivial | assumption | exact knownSS | exact knownApp knownSS knownNil | refine And.intro ?_ ?_) nofun ?_
    refine callW.mk [] 4 _ _ _ (toIntS_c _ (by first | omega | assumption | (simp; omega) | (simp; done) | exact hl _ (List.getElem_mem _) | exact h2 _ (List.getElem_mem _) | exact h3 _ (List.getElem_mem _))) rfl rfl (by repeat' first | exact trivial | assumption | exact knownSS | exact knownApp knownSS knownNil | refine And.intro ?_ ?_) nofun ?_
    refine callW.mk [] 5 _ _ _ (toRoad_c _ _) rfl rfl (by repeat' first | exact trivial | assumption | exact knownSS | exact knownApp knownSS knownNil | refine And.intro ?_ ?_) nofun ?_
    refine callW.mk [] 5 _ _ _ (IsFree_c _ _ _ _ (by first | omega | assumption | (simp; omega) | (simp; done) | exact hl _ (List.getElem_mem _) | exact h2 _ (List.getElem_mem _) | exact h3 _ (List.getElem_mem _)) (by first | omega | assumption | (simp; omega) | (simp; done) | exact hl _ (List.getElem_mem _) | exact h2 _ (List.getElem_mem _) | exact h3 _ (List.getElem_mem _)) (by first | omega | assumption | (simp; omega) | (simp; done) | exact hl _ (List.getElem_mem _) | exact h2 _ (List.getElem_mem _) | exact h3 _ (List.getElem_mem _))) rfl rfl (by repeat' first | exact trivial | assumption | exact knownSS | exact knownApp knownSS knownNil | refine And.intro ?_ ?_) nofun ?_
    iterate 2 refine tN (by first | omega | assumption | exact fun h => h (by assumption) | exact fun h => h rfl | exact fun h => h Iff.rfl) ?_
    refine callW.mk [] 5 _ _ _ (toIntSS_c _ (by first | omega | assumption | (simp; omega) | (simp; done) | exact hl _ (List.getElem_mem _) | exact h2 _ (List.getElem_mem _) | exact h3 _ (List.getElem_mem _)) (by first | omega | assumption | (simp; omega) | (simp; done) | exact hl _ (List.getElem_mem _) | exact h2 _ (List.getElem_mem _) | exact h3 _ (List.getElem_mem _))) rfl rfl (by repeat' first | exact trivial | assumption | exact knownSS | exact knownApp knownSS knownNil | refine And.intro ?_ ?_) nofun ?_
    refine callW.mk [] 6 _ _ _ (eqIntSS_c _ _ (by first | omega | assumption | (simp; omega) | (simp; done) | exact hl _ (List.getElem_mem _) | exact h2 _ (List.getElem_mem _) | exact h3 _ (List.getElem_mem _)) (by first | omega | assumption | (simp; omega) | (simp; done) | exact hl _ (List.getElem_mem _) | exact h2 _ (List.getElem_mem _) | exact h3 _ (List.getElem_mem _)) (by first | omega | assumption | (simp; omega) | (simp; done) | exact hl _ (List.getElem_mem _) | exact h2 _ (List.getElem_mem _) | exact h3 _ (List.getElem_mem _)) (by first | omega | assumption | (simp; omega) | (simp; done) | exact hl _ (List.getElem_mem _) | exact h2 _ (List.getElem_mem _) | exact h3 _ (List.getElem_mem _))) rfl rfl (by repeat' first | exact trivial | assumption | exact knownSS | exact knownApp knownSS knownNil | refine And.intro ?_ ?_) nofun ?_
    refine tN (by first | omega | assumption | exact fun h => h (by assumption) | exact fun h => h rfl | exact fun h => h Iff.rfl) ?_
    refine callW.mk [] 6 _ _ _ (toIntS_c _ (by first | omega | assumption | (simp; omega) | (simp; done) | exact hl _ (List.getElem_mem _) | exact h2 _ (List.getElem_mem _) | exact h3 _ (List.getElem_mem _))) rfl rfl (by repeat' first | exact trivial | assumption | exact knownSS | exact knownApp knownSS knownNil | refine And.intro ?_ ?_) nofun ?_
    refine callW.mk [] 7 _ _ _ (eqIntS_c _ _ (by first | omega | assumption | (simp; omega) | (simp; done) | exact hl _ (List.getElem_mem _) | exact h2 _ (List.getElem_mem _) | exact h3 _ (List.getElem_mem _)) (by first | omega | assumption | (simp; omega) | (simp; done) | exact hl _ (List.getElem_mem _) | exact h2 _ (List.getElem_mem _) | exact h3 _ (List.getElem_mem _))) rfl rfl (by repeat' first | exact trivial | assumption | exact knownSS | exact knownApp knownSS knownNil | refine And.intro ?_ ?_) nofun ?_
    refine tN (by first | omega | assumption | exact fun h => h (by assumption) | exact fun h => h rfl | exact fun h => h Iff.rfl) ?_
    rotate_left
    all_goals exact dv0 rfl trivial
end Sx
