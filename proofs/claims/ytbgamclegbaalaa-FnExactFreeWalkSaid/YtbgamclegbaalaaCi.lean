/- Contracts: how many free walks there are. -/
import Derived.Test.YtbgamclegbaalaaCh
import Derived.Test.YtbgamclegbaalaaMxI
set_option linter.all false
namespace Sx
open Go Go.Proofs
set_option maxRecDepth 100000
set_option maxHeartbeats 4000000
set_option linter.unusedSimpArgs false
theorem freeWays_c (n : Int) (b : Bool) (hr : road n b) (L : List (List Int)) (hL : L.length ≤ 1099511627775) (hw : lenOk L) (T : Nat) (hT : lng L = T + 1) (hT2 : T ≤ 30) (most : Int) (hm : most = 2305843009213693952) : C 92 [rd n b, intss L] [] (.loc 0) [.row .nest 1 ((wtab n b L T most 0).map ints)] false := by
  have hn := hr.1
  have hn2 := hr.2.1
  have hlen : ∀ u, (wtab n b L T most u).length = T + 1 := wtab_len
  refine mkC true false Try.func92 rfl ?_
  refine And.intro nofun ?_
  refine Z ?_
  refine callW.mk [] 1 _ _ _ (longest_c _ (by first | omega | assumption | (simp; omega) | (simp; done)) (by first | omega | assumption | (simp; omega) | (simp; done))) rfl rfl trivial nofun ?_
  iterate 2 refine Z ?_
  refine jn (by omega) (by omega) ?_
  refine ixb (by omega) (by omega) ?_
  iterate 2 refine Z ?_
  refine erepS ?_
  refine nw (by omega) (by omega) ?_
  rotate_left
  refine loop_up (β := Nat) (fun u => [(7, i64 ((u : Int) - 1))]) (fun u => [(1, .row .nest 1 ((wtab n b L T most u).map ints))]) [] (fun u => u ≤ T + 1) (fun u => u) (T+1) ?_ ?_ ?_
  · omega
  · refine weak.mk [] [0, 1] rfl rfl ?_ ?_
    repeat' first | exact trivial | exact rfl | exact Iff.rfl | assumption | exact pureI | exact (show _ = _ by omega) | exact (show _ ≤ _ by omega) | exact (show _ < _ by omega) | exact (show ¬ _ by omega) | refine And.intro ?_ ?_
    rw [hT, show ((T : Int) + 1).toNat = T + 1 by omega, ← wtab_all]
  · rintro u hu R hR
    by_cases h0 : u = 0
    · subst h0
      refine tN (by first | omega | assumption | exact fun h => h (by assumption) | exact fun h => h rfl | exact fun h => h Iff.rfl) ?_
      rotate_left
      refine doneV.mk [] [1] rfl rfl ?_ ?_ ?_
      repeat' first | exact trivial | exact rfl | exact Iff.rfl | assumption | exact pureI | exact (show _ = _ by omega) | exact (show _ ≤ _ by omega) | exact (show _ < _ by omega) | exact (show ¬ _ by omega) | refine And.intro ?_ ?_
      exact pureSS
    · obtain ⟨t, rfl⟩ : ∃ t, u = t + 1 := ⟨u - 1, by omega⟩
      rw [show (((t + 1 : Nat) : Int) - 1) = (t : Int) by omega]
      refine tY (by first | omega | assumption | exact rfl | exact Iff.rfl) ?_
      refine Z ?_
      rotate_left
      refine loop_up (β := Nat) (fun k => [(24, i64 k)]) (fun k => [(1, .row .nest 1 ((wtK n b L T most t k).map ints))]) [] (fun k => k ≤ n.toNat) (fun k => n.toNat - k) (0) ?_ ?_ ?_
      · omega
      · refine weak.mk [] [0, 1] rfl rfl ?_ ?_
        repeat' first | exact trivial | exact rfl | exact Iff.rfl | assumption | exact pureI | exact (show _ = _ by omega) | exact (show _ ≤ _ by omega) | exact (show _ < _ by omega) | exact (show ¬ _ by omega) | refine And.intro ?_ ?_
        rw [wtK_0 (by omega)]
      · rintro k hk R2 hR2
        have hlen2 := wtK_len (n := n) (b := b) (L := L) (T := T) (most := most) (t := t) (k := k)
        have hnb := nbrs_len n b k
        have hrl := wrow_len (n := n) (b := b) (L := L) (T := T) (most := most) (t := t) (k := k)
        by_cases hkn : k < n.toNat
        · have hat := wtK_at (n := n) (b := b) (L := L) (T := T) (most := most) (t := t) (k := k) (by omega)
          have hset := wtK_set (n := n) (b := b) (L := L) (T := T) (most := most) (t := t) (k := k)
          rw [wrow_succ] at hset
          refine tY (by first | omega | assumption | exact rfl | exact Iff.rfl) ?_
          refine callW.mk [] 2 _ _ _ (placesAt_c _ _ (by first | omega | assumption | (simp; omega) | (simp; done)) (by first | omega | assumption | (simp; omega) | (simp; done)) (by first | omega | assumption | (simp; omega) | (simp; done))) rfl rfl (by repeat' first | exact trivial | assumption | exact knownSS | exact knownApp knownSS knownNil | refine And.intro ?_ ?_) nofun ?_
          refine callW.mk [] 3 _ _ _ (Contains_c _ (by first | omega | assumption | (simp; omega) | (simp; done)) _) rfl rfl (by repeat' first | exact trivial | assumption | exact knownSS | exact knownApp knownSS knownNil | refine And.intro ?_ ?_) nofun ?_
          refine twoP.mk (fun _ => ?_) (fun _ => ?_)
          iterate 2 refine Z ?_
          refine jkm (by omega) ?_
          refine gmv (by omega) hat ?_
          iterate 8 refine Z ?_
          refine omv (by omega) hat ?_
          iterate 2 refine Z ?_
          refine lem1 (by omega) ?_
          refine er ?_
          refine ea ?_
          iterate 2 refine Z ?_
          refine jn (by omega) (by simp; omega) ?_
          iterate 2 refine Z ?_
          refine ix (by omega) (by simp; omega) ?_
          refine Z ?_
          refine esetSU (by omega) ?_
          refine nw (by omega) (by omega) ?_
          rotate_left
          refine nw (by omega) (by omega) ?_
          refine twoP.mk (fun _ => ?_) (fun _ => ?_)
          iterate 2 refine Z ?_
          refine jkm (by omega) ?_
          refine gmv (by omega) hat ?_
          iterate 8 refine Z ?_
          refine omv (by omega) hat ?_
          iterate 2 refine Z ?_
          refine lem1 (by omega) ?_
          refine er ?_
          refine ea ?_
          iterate 2 refine Z ?_
          refine jn (by omega) (by simp; omega) ?_
          iterate 2 refine Z ?_
          refine ix (by omega) (by simp; omega) ?_
          refine Z ?_
          refine esetSU (by omega) ?_
          refine nw (by omega) (by omega) ?_
          rotate_left
          refine callW.mk [] 3 _ _ _ (neighbors_c _ _ (by first | omega | assumption | (simp; omega) | (simp; done)) _ (by first | omega | assumption | (simp; omega) | (simp; done))) rfl rfl (by repeat' first | exact trivial | assumption | exact knownSS | exact knownApp knownSS knownNil | refine And.intro ?_ ?_) nofun ?_
          iterate 10 refine Z ?_
          refine lem1 (by omega) ?_
          refine ea ?_
          refine lm ?_
          rotate_left
          · rename_i h1
            refine hR2 (k + 1) _ _ ?_ ?_
            rotate_left
            refine weak.mk [] [0, 1] rfl rfl ?_ ?_
            repeat' first | exact trivial | exact rfl | exact Iff.rfl | assumption | exact pureI | exact (show _ = _ by omega) | exact (show _ ≤ _ by omega) | exact (show _ < _ by omega) | exact (show ¬ _ by omega) | refine And.intro ?_ ?_
            rotate_right
            · exact ⟨by omega, by omega⟩
            · rw [← hset, wy_zero (by omega) h1]
          · rename_i h1 h2
            refine hR2 (k + 1) _ _ ?_ ?_
            rotate_left
            refine weak.mk [] [0, 1] rfl rfl ?_ ?_
            repeat' first | exact trivial | exact rfl | exact Iff.rfl | assumption | exact pureI | exact (show _ = _ by omega) | exact (show _ ≤ _ by omega) | exact (show _ < _ by omega) | exact (show ¬ _ by omega) | refine And.intro ?_ ?_
            rotate_right
            · exact ⟨by omega, by omega⟩
            · have e : t = T := by omega
              subst e
              rw [← hset, wy_last, if_neg h1]
          · rename_i h1 h2
            have hlt : t < T := by omega
            have hnx := wtK_next (n := n) (b := b) (L := L) (T := T) (most := most) (t := t) (k := k) (by omega)
            have hnxl : (wrow n b L T most (t + 1) n.toNat).length = n.toNat := wrow_len
            have hin : ∀ q ∈ nbrs n b k ++ [(k : Int)], 0 ≤ q ∧ q < n := fun q hq => ((nbrs_self (b := b) (by omega)).1 hq).1
            have hbd := implS_bd (n := n) (b := b) (L := L) (t := t) (p := k) (w := wy n b L T most (t + 1)) (N := nbrs n b k ++ [(k : Int)]) (M := 205891132094649) (by omega) (fun q hq => ⟨(wy_nn (by omega) _ _).1, by
              have h3 := hin q hq
              exact Int.le_trans (wy_le (by omega) hn2 (by omega)) (pow30 (by omega))⟩)
            have hNl : (nbrs n b k ++ [(k : Int)]).length ≤ 25 := by simp; omega
            refine loop_up (β := Nat) (fun j => [(34, i64 j), (9, i64 (implS n b L t k (wy n b L T most (t + 1)) ((nbrs n b k ++ [(k : Int)]).take j)))]) (fun j => []) [] (fun j => j ≤ (nbrs n b k ++ [(k : Int)]).length) (fun j => (nbrs n b k ++ [(k : Int)]).length - j) (0) ?_ ?_ ?_
            · omega
            · refine weak.mk [] [0, 1, 2, 3, 4, 5] rfl rfl ?_ ?_
              repeat' first | exact trivial | exact rfl | exact Iff.rfl | assumption | exact pureI | exact (show _ = _ by omega) | exact (show _ ≤ _ by omega) | exact (show _ < _ by omega) | exact (show ¬ _ by omega) | refine And.intro ?_ ?_
            · rintro j hj R3 hR3
              by_cases hjn : j < (nbrs n b k ++ [(k : Int)]).length
              · have hq := hin _ (List.getElem_mem hjn)
                have hb1 := hbd j (by omega)
                have hsn := implS_snoc (n := n) (b := b) (L := L) t k (wy n b L T most (t + 1)) hjn
                have hwy : (wrow n b L T most (t + 1) n.toNat)[((nbrs n b k ++ [(k : Int)])[j]).toNat]'(by rw [wrow_len]; omega) = wy n b L T most (t + 1) ((nbrs n b k ++ [(k : Int)])[j]).toNat := wrow_get _
                have hwb := wy_nn (n := n) (b := b) (L := L) (T := T) (most := most) (by omega) (t + 1) ((nbrs n b k ++ [(k : Int)])[j]).toNat
                refine tY (by first | omega | assumption | exact rfl | exact Iff.rfl) ?_
                iterate 2 refine Z ?_
                refine jkm (by omega) ?_
                refine gm (by omega) ?_
                refine callW.mk [] 6 _ _ _ (placesAt_c _ _ (by first | omega | assumption | (simp; omega) | (simp; done) | exact hin _ (List.getElem_mem _)) (by first | omega | assumption | (simp; omega) | (simp; done) | exact hin _ (List.getElem_mem _)) (by first | omega | assumption | (simp; omega) | (simp; done) | exact hin _ (List.getElem_mem _))) rfl rfl (by repeat' first | exact trivial | assumption | exact knownSS | exact knownApp knownSS knownNil | refine And.intro ?_ ?_) nofun ?_
                refine nw (by omega) (by omega) ?_
                refine callW.mk [] 7 _ _ _ (placesAt_c _ _ (by first | omega | assumption | (simp; omega) | (simp; done) | exact hin _ (List.getElem_mem _)) (by first | omega | assumption | (simp; omega) | (simp; done) | exact hin _ (List.getElem_mem _)) (by first | omega | assumption | (simp; omega) | (simp; done) | exact hin _ (List.getElem_mem _))) rfl rfl (by repeat' first | exact trivial | assumption | exact knownSS | exact knownApp knownSS knownNil | refine And.intro ?_ ?_) nofun ?_
                refine callW.mk [] 8 _ _ _ (catches_c _ _ (by first | omega | assumption | (simp; omega) | (simp; done) | exact hin _ (List.getElem_mem _)) (by first | omega | assumption | (simp; omega) | (simp; done) | exact hin _ (List.getElem_mem _)) _ _) rfl rfl (by repeat' first | exact trivial | assumption | exact knownSS | exact knownApp knownSS knownNil | refine And.intro ?_ ?_) nofun ?_
                refine twoN (fun _ => ?_) (fun _ => ?_)
                refine nw (by omega) (by omega) ?_
                iterate 2 refine Z ?_
                refine jpm (by omega) ?_
                refine gmv (by omega) hnx ?_
                refine omv (by omega) hnx ?_
                iterate 2 refine Z ?_
                refine jnm (by omega) (by omega) ?_
                refine omv (by omega) hnx ?_
                refine gmv (by omega) hwy ?_
                iterate 2 refine nw (by omega) (by omega) ?_
                rotate_left
                refine nw (by omega) (by omega) ?_
                rotate_left
                · rename_i h3
                  refine hR3 (j + 1) _ _ ?_ ?_
                  rotate_left
                  refine weak.mk [] [0, 1, 2, 3, 4, 5] rfl rfl ?_ ?_
                  repeat' first | exact trivial | exact rfl | exact Iff.rfl | assumption | exact pureI | exact (show _ = _ by omega) | exact (show _ ≤ _ by omega) | exact (show _ < _ by omega) | exact (show ¬ _ by omega) | refine And.intro ?_ ?_
                  rotate_right
                  · exact ⟨by omega, by omega⟩
                  · rw [hsn, if_neg h3]
                · rename_i h3
                  refine hR3 (j + 1) _ _ ?_ ?_
                  rotate_left
                  refine weak.mk [] [0, 1, 2, 3, 4, 5] rfl rfl ?_ ?_
                  repeat' first | exact trivial | exact rfl | exact Iff.rfl | assumption | exact pureI | exact (show _ = _ by omega) | exact (show _ ≤ _ by omega) | exact (show _ < _ by omega) | exact (show ¬ _ by omega) | refine And.intro ?_ ?_
                  rotate_right
                  · exact ⟨by omega, by omega⟩
                  · rw [hsn, if_pos h3, Int.add_zero]
              · refine tN (by first | omega | assumption | exact fun h => h (by assumption) | exact fun h => h rfl | exact fun h => h Iff.rfl) ?_
                iterate 2 refine Z ?_
                refine jkm (by omega) ?_
                refine gmv (by omega) hat ?_
                iterate 8 refine Z ?_
                refine omv (by omega) hat ?_
                iterate 2 refine Z ?_
                refine lem1 (by omega) ?_
                refine er ?_
                refine ea ?_
                iterate 2 refine Z ?_
                refine jn (by omega) (by simp; omega) ?_
                iterate 2 refine Z ?_
                refine ix (by omega) (by simp; omega) ?_
                refine Z ?_
                refine esetSU (by omega) ?_
                refine nw (by omega) (by omega) ?_
                rotate_left
                refine hR2 (k + 1) _ _ ?_ ?_
                rotate_left
                refine weak.mk [] [0, 1] rfl rfl ?_ ?_
                repeat' first | exact trivial | exact rfl | exact Iff.rfl | assumption | exact pureI | exact (show _ = _ by omega) | exact (show _ ≤ _ by omega) | exact (show _ < _ by omega) | exact (show ¬ _ by omega) | refine And.intro ?_ ?_
                rotate_right
                · exact ⟨by omega, by omega⟩
                · rw [List.take_of_length_le (by omega), implS_eq hkn (fun q hq h => wy_zero (by omega) (by rw [Int.natCast_add]; exact h)), ← hset, wy_step hlt, if_neg h1]
                  have hs3 := sum_le (n := n) (b := b) (L := L) (t := t) hn2 hkn (w := wy n b L T most (t + 1)) (m := 205891132094649) (by omega) (fun q hq => Int.le_trans (wy_le (by omega) hn2 hq) (pow30 (by omega)))
                  rw [Int.min_eq_left (by omega)]
        · refine tN (by first | omega | assumption | exact fun h => h (by assumption) | exact fun h => h rfl | exact fun h => h Iff.rfl) ?_
          refine nw (by omega) (by omega) ?_
          rotate_left
          refine hR (t) _ _ ?_ ?_
          rotate_left
          refine weak.mk [] [0, 1] rfl rfl ?_ ?_
          repeat' first | exact trivial | exact rfl | exact Iff.rfl | assumption | exact pureI | exact (show _ = _ by omega) | exact (show _ ≤ _ by omega) | exact (show _ < _ by omega) | exact (show ¬ _ by omega) | refine And.intro ?_ ?_
          rotate_right
          · exact ⟨by omega, by omega⟩
          · rw [show k = n.toNat by omega, wtK_n]
theorem CountFree_c (n : Int) (b : Bool) (L : List (List Int)) (hL : L.length ≤ 1099511627775) (hl : ∀ l ∈ L, l.length ≤ 1099511627776) : C 40 [rd n b, intss L] [] (.tuple [i64 (cntR n b L), pr (cntOk n b L)]) [] false := by
  refine mkC false false Try.func40 rfl ?_
  refine And.intro nofun ?_
  by_cases hc : chasers n b L
  · have hr := hc.1
    have hw : lenOk L := chasers_len hc
    have hb := lng_bd L hw
    have hne : L ≠ [] := by have := hc.2.2.1; rintro rfl; simp at this
    have h1 := hb.2.2 hne
    obtain ⟨T, hT⟩ : ∃ T : Nat, lng L = T + 1 := ⟨(lng L - 1).toNat, by omega⟩
    by_cases hT2 : T ≤ 30
    · obtain ⟨most, hm⟩ : ∃ m : Int, m = 2305843009213693952 := ⟨_, rfl⟩
      have hcr := cntR_yes (show cntOk n b L from ⟨hc, by omega⟩) hT
      rw [← hm] at hcr
      rw [hcr]
      have hok : cntOk n b L := ⟨hc, by omega⟩
      have hlen : (wtab n b L T most 0).length = T + 1 := wtab_len 0
      have hg : (wtab n b L T most 0)[0]'(by omega) = wrow n b L T most 0 n.toNat := wtab_get _
      have hgl : (wrow n b L T most 0 n.toNat).length = n.toNat := wrow_len
      have hbd : ∀ k, k ≤ n.toNat → 0 ≤ sumR k (wy n b L T most 0) ∧ sumR k (wy n b L T most 0) ≤ k * 205891132094649 := cnt_bd (by omega) hr.2.1 hT2
      refine Z ?_
      refine callW.mk [] 1 _ _ _ (areChasers_c _ _ _ (by first | omega | assumption | (simp; omega) | (simp; done) | exact hl _ (List.getElem_mem _)) (by first | omega | assumption | (simp; omega) | (simp; done) | exact hl _ (List.getElem_mem _))) rfl rfl trivial nofun ?_
      refine tN (by first | omega | assumption | exact fun h => h (by assumption) | exact fun h => h rfl | exact fun h => h Iff.rfl) ?_
      refine callW.mk [] 1 _ _ _ (longest_c _ (by first | omega | assumption | (simp; omega) | (simp; done) | exact hl _ (List.getElem_mem _)) (by first | omega | assumption | (simp; omega) | (simp; done) | exact hl _ (List.getElem_mem _))) rfl rfl trivial nofun ?_
      refine tN (by first | omega | assumption | exact fun h => h (by assumption) | exact fun h => h rfl | exact fun h => h Iff.rfl) ?_
      refine callW.mk [] 1 _ _ _ ((freeWays_c n b hr L hL hw T hT hT2 most hm)) rfl rfl (by repeat' first | exact trivial | assumption | exact knownSS | exact knownApp knownSS knownNil | refine And.intro ?_ ?_) nofun ?_
      iterate 2 refine Z ?_
      refine idxN.mk 0 (by omega) (by simp; omega) rfl ?_
      refine gmv (by omega) hg ?_
      refine omv (by omega) hg ?_
      refine lm ?_
      rotate_left
      refine loop_up (β := Nat) (fun k => [(24, i64 k), (6, i64 (sumR k (wy n b L T most 0)))]) (fun k => []) [] (fun k => k ≤ n.toNat) (fun k => n.toNat - k) (0) ?_ ?_ ?_
      · omega
      · refine weak.mk [] [0, 1] rfl rfl ?_ ?_
        repeat' first | exact trivial | exact rfl | exact Iff.rfl | assumption | exact pureI | exact (show _ = _ by omega) | exact (show _ ≤ _ by omega) | exact (show _ < _ by omega) | exact (show ¬ _ by omega) | refine And.intro ?_ ?_
      · rintro k hk R hR
        have hbk := hbd k hk
        by_cases hkn : k < n.toNat
        · have hgk : (wrow n b L T most 0 n.toNat)[k]'(by rw [wrow_len]; omega) = wy n b L T most 0 k := wrow_get _
          have hbk2 := hbd (k + 1) hkn
          rw [sumR_succ] at hbk2
          refine tY (by first | omega | assumption | exact rfl | exact Iff.rfl) ?_
          refine omv (by omega) hg ?_
          iterate 2 refine Z ?_
          refine jkm (by omega) ?_
          refine omv (by omega) hg ?_
          refine gmv (by omega) hgk ?_
          iterate 2 refine nw (by omega) (by omega) ?_
          rotate_left
          refine hR (k + 1) _ _ ?_ ?_
          rotate_left
          refine weak.mk [] [0, 1] rfl rfl ?_ ?_
          repeat' first | exact trivial | exact rfl | exact Iff.rfl | assumption | exact pureI | exact (show _ = _ by omega) | exact (show _ ≤ _ by omega) | exact (show _ < _ by omega) | exact (show ¬ _ by omega) | refine And.intro ?_ ?_
          rotate_right
          · exact ⟨by omega, by omega⟩
          · rw [sumR_succ]
        · refine tN (by first | omega | assumption | exact fun h => h (by assumption) | exact fun h => h rfl | exact fun h => h Iff.rfl) ?_
          rotate_left
          refine doneV.mk [] [] rfl rfl ?_ ?_ ?_
          repeat' first | exact trivial | exact rfl | exact Iff.rfl | assumption | exact pureI | exact (show _ = _ by omega) | exact (show _ ≤ _ by omega) | exact (show _ < _ by omega) | exact (show ¬ _ by omega) | refine And.intro ?_ ?_
          · rw [show k = n.toNat by omega]
    · refine Z ?_
      refine callW.mk [] 1 _ _ _ (areChasers_c _ _ _ (by first | omega | assumption | (simp; omega) | (simp; done) | exact hl _ (List.getElem_mem _)) (by first | omega | assumption | (simp; omega) | (simp; done) | exact hl _ (List.getElem_mem _))) rfl rfl trivial nofun ?_
      refine tN (by first | omega | assumption | exact fun h => h (by assumption) | exact fun h => h rfl | exact fun h => h Iff.rfl) ?_
      refine callW.mk [] 1 _ _ _ (longest_c _ (by first | omega | assumption | (simp; omega) | (simp; done) | exact hl _ (List.getElem_mem _)) (by first | omega | assumption | (simp; omega) | (simp; done) | exact hl _ (List.getElem_mem _))) rfl rfl trivial nofun ?_
      refine tY (by first | omega | assumption | exact rfl | exact Iff.rfl) ?_
      rotate_left
      rw [cntR_no fun h => hT2 (by have := h.2; omega)]
      refine doneV.mk [] [] rfl rfl ?_ ?_ ?_
      repeat' first | exact trivial | exact rfl | exact Iff.rfl | assumption | exact pureI | exact (show _ = _ by omega) | exact (show _ ≤ _ by omega) | exact (show _ < _ by omega) | exact (show ¬ _ by omega) | refine And.intro ?_ ?_
      exact (show ¬ _ from fun h => hT2 (by have := h.2; omega))
  · refine Z ?_
    refine callW.mk [] 1 _ _ _ (areChasers_c _ _ _ (by first | omega | assumption | (simp; omega) | (simp; done) | exact hl _ (List.getElem_mem _)) (by first | omega | assumption | (simp; omega) | (simp; done) | exact hl _ (List.getElem_mem _))) rfl rfl trivial nofun ?_
    refine tY (by first | omega | assumption | exact rfl | exact Iff.rfl) ?_
    rotate_left
    rw [cntR_no fun h => hc h.1]
    refine doneV.mk [] [] rfl rfl ?_ ?_ ?_
    repeat' first | exact trivial | exact rfl | exact Iff.rfl | assumption | exact pureI | exact (show _ = _ by omega) | exact (show _ ≤ _ by omega) | exact (show _ < _ by omega) | exact (show ¬ _ by omega) | refine And.intro ?_ ?_
    exact (show ¬ _ from fun h => hc h.1)
theorem l11Ways_c (n : Int) (b : Bool) (hr : road n b) (L : List (List Int)) (hL : L.length ≤ 1099511627775) (h0 : 1 ≤ L.length) (hw : lenOk L) (T : Nat) (hT : lng L = T + 1) (most : Int) (hm : 1 ≤ most ∧ most ≤ 2305843009213693952) : C 91 [rd n b, intss L, i64 most] [] (.loc 0) [.row .nest 1 ((wtab n b L T most 0).map ints)] false := by
  have hn := hr.1
  have hn2 := hr.2.1
  have hT3 : T ≤ 60 := by have := (lng_bd L hw).2.1; omega
  have hlen : ∀ u, (wtab n b L T most u).length = T + 1 := wtab_len
  refine mkC true false Try.func91 rfl ?_
  refine And.intro nofun ?_
  refine Z ?_
  refine callW.mk [] 1 _ _ _ (l11Last_c _ (by first | omega | assumption | (simp; omega) | (simp; done)) (by first | omega | assumption | (simp; omega) | (simp; done)) (by first | omega | assumption | (simp; omega) | (simp; done))) rfl rfl trivial nofun ?_
  refine nw (by omega) (by omega) ?_
  iterate 2 refine Z ?_
  refine jn (by omega) (by omega) ?_
  refine ixb (by omega) (by omega) ?_
  iterate 2 refine Z ?_
  refine erepS ?_
  rotate_left
  refine loop_up (β := Nat) (fun u => [(9, i64 ((u : Int) - 1))]) (fun u => [(1, .row .nest 1 ((wtab n b L T most u).map ints))]) [] (fun u => u ≤ T + 1) (fun u => u) (T+1) ?_ ?_ ?_
  · omega
  · refine weak.mk [] [0, 1] rfl rfl ?_ ?_
    repeat' first | exact trivial | exact rfl | exact Iff.rfl | assumption | exact pureI | exact (show _ = _ by omega) | exact (show _ ≤ _ by omega) | exact (show _ < _ by omega) | exact (show ¬ _ by omega) | refine And.intro ?_ ?_
    rw [hT, show ((T : Int) + 1 - 1 + 1).toNat = T + 1 by omega, ← wtab_all]
  · rintro u hu R hR
    by_cases h0 : u = 0
    · subst h0
      refine tN (by first | omega | assumption | exact fun h => h (by assumption) | exact fun h => h rfl | exact fun h => h Iff.rfl) ?_
      rotate_left
      refine doneV.mk [] [1] rfl rfl ?_ ?_ ?_
      repeat' first | exact trivial | exact rfl | exact Iff.rfl | assumption | exact pureI | exact (show _ = _ by omega) | exact (show _ ≤ _ by omega) | exact (show _ < _ by omega) | exact (show ¬ _ by omega) | refine And.intro ?_ ?_
      exact pureSS
    · obtain ⟨t, rfl⟩ : ∃ t, u = t + 1 := ⟨u - 1, by omega⟩
      rw [show (((t + 1 : Nat) : Int) - 1) = (t : Int) by omega]
      refine tY (by first | omega | assumption | exact rfl | exact Iff.rfl) ?_
      refine callW.mk [] 2 _ _ _ (l11At_c _ _ (by first | omega | assumption | (simp; omega) | (simp; done)) (by first | omega | assumption | (simp; omega) | (simp; done)) (by first | omega | assumption | (simp; omega) | (simp; done))) rfl rfl (by repeat' first | exact trivial | assumption | exact knownSS | exact knownApp knownSS knownNil | refine And.intro ?_ ?_) nofun ?_
      rotate_left
      refine loop_up (β := Nat) (fun k => [(11, i64 k)]) (fun k => [(1, .row .nest 1 ((wtK n b L T most t k).map ints))]) [] (fun k => k ≤ n.toNat) (fun k => n.toNat - k) (0) ?_ ?_ ?_
      · omega
      · refine weak.mk [] [0, 1, 2] rfl rfl ?_ ?_
        repeat' first | exact trivial | exact rfl | exact Iff.rfl | assumption | exact pureI | exact (show _ = _ by omega) | exact (show _ ≤ _ by omega) | exact (show _ < _ by omega) | exact (show ¬ _ by omega) | refine And.intro ?_ ?_
        rw [wtK_0 (by omega)]
      · rintro k hk R2 hR2
        have hlen2 := wtK_len (n := n) (b := b) (L := L) (T := T) (most := most) (t := t) (k := k)
        have hrl := wrow_len (n := n) (b := b) (L := L) (T := T) (most := most) (t := t) (k := k)
        by_cases hkn : k < n.toNat
        · have hat := wtK_at (n := n) (b := b) (L := L) (T := T) (most := most) (t := t) (k := k) (by omega)
          have hset := wtK_set (n := n) (b := b) (L := L) (T := T) (most := most) (t := t) (k := k)
          rw [wrow_succ] at hset
          have hnn : ∀ q : Nat, 0 ≤ if okq n b L t k q then wy n b L T most (t + 1) q else 0 := fun q => by
            split
            · exact (wy_nn hm.1 _ _).1
            · omega
          refine Z ?_
          refine tY (by first | omega | assumption | exact rfl | exact Iff.rfl) ?_
          rotate_left
          refine loop_up (β := Nat) (fun q => [(13, i64 q), (12, i64 (min (sumR q fun q => if okq n b L t k q then wy n b L T most (t + 1) q else 0) most))]) (fun q => []) [] (fun q => q ≤ n.toNat ∧ (q = 0 ∨ (t < T ∧ (k : Int) ∉ plAt L t))) (fun q => n.toNat - q) (0) ?_ ?_ ?_
          · exact ⟨by omega, .inl rfl⟩
          · refine weak.mk [] [0, 1, 2] rfl rfl ?_ ?_
            repeat' first | exact trivial | exact rfl | exact Iff.rfl | assumption | exact pureI | exact (show _ = _ by omega) | exact (show _ ≤ _ by omega) | exact (show _ < _ by omega) | exact (show ¬ _ by omega) | refine And.intro ?_ ?_
            rw [sumR_0]; omega
          · rintro q ⟨hq, hq2⟩ R3 hR3
            have hs := sumR_nn (k := q) (fun q _ => hnn q)
            by_cases hkp : (k : Int) ∈ plAt L t
            · have hq0 : q = 0 := hq2.resolve_right fun h => h.2 hkp
              subst hq0
              refine Z ?_
              refine tY (by first | omega | assumption | exact rfl | exact Iff.rfl) ?_
              refine twoP.mk (fun _ => ?_) (fun _ => ?_)
              refine callW.mk [] 3 _ _ _ (l1Has_c _ (by first | omega | assumption | (simp; omega) | (simp; done)) _) rfl rfl (by repeat' first | exact trivial | assumption | exact knownSS | exact knownApp knownSS knownNil | refine And.intro ?_ ?_) nofun ?_
              iterate 2 refine tN (by first | omega | assumption | exact fun h => h (by assumption) | exact fun h => h rfl | exact fun h => h Iff.rfl) ?_
              iterate 2 refine Z ?_
              refine jkm (by omega) ?_
              refine gmv (by omega) hat ?_
              iterate 8 refine Z ?_
              refine omv (by omega) hat ?_
              iterate 2 refine Z ?_
              refine lem1 (by omega) ?_
              refine er ?_
              refine ea ?_
              iterate 2 refine Z ?_
              refine jn (by omega) (by simp; omega) ?_
              iterate 2 refine Z ?_
              refine ix (by omega) (by simp; omega) ?_
              refine Z ?_
              refine esetSU (by omega) ?_
              refine nw (by omega) (by omega) ?_
              rotate_left
              refine tY (by first | omega | assumption | exact rfl | exact Iff.rfl) ?_
              refine callW.mk [] 3 _ _ _ (l1Has_c _ (by first | omega | assumption | (simp; omega) | (simp; done)) _) rfl rfl (by repeat' first | exact trivial | assumption | exact knownSS | exact knownApp knownSS knownNil | refine And.intro ?_ ?_) nofun ?_
              refine tN (by first | omega | assumption | exact fun h => h (by assumption) | exact fun h => h rfl | exact fun h => h Iff.rfl) ?_
              iterate 2 refine Z ?_
              refine jkm (by omega) ?_
              refine gmv (by omega) hat ?_
              iterate 8 refine Z ?_
              refine omv (by omega) hat ?_
              iterate 2 refine Z ?_
              refine lem1 (by omega) ?_
              refine er ?_
              refine ea ?_
              iterate 2 refine Z ?_
              refine jn (by omega) (by simp; omega) ?_
              iterate 2 refine Z ?_
              refine ix (by omega) (by simp; omega) ?_
              refine Z ?_
              refine esetSU (by omega) ?_
              refine nw (by omega) (by omega) ?_
              rotate_left
              · rename_i h1
                refine hR2 (k + 1) _ _ ?_ ?_
                rotate_left
                refine weak.mk [] [0, 1, 2] rfl rfl ?_ ?_
                repeat' first | exact trivial | exact rfl | exact Iff.rfl | assumption | exact pureI | exact (show _ = _ by omega) | exact (show _ ≤ _ by omega) | exact (show _ < _ by omega) | exact (show ¬ _ by omega) | refine And.intro ?_ ?_
                rotate_right
                · exact ⟨by omega, by omega⟩
                · rw [← hset, wy_zero (by omega) hkp, sumR_0, Int.min_eq_left (by omega)]
              · rename_i h1
                refine hR2 (k + 1) _ _ ?_ ?_
                rotate_left
                refine weak.mk [] [0, 1, 2] rfl rfl ?_ ?_
                repeat' first | exact trivial | exact rfl | exact Iff.rfl | assumption | exact pureI | exact (show _ = _ by omega) | exact (show _ ≤ _ by omega) | exact (show _ < _ by omega) | exact (show ¬ _ by omega) | refine And.intro ?_ ?_
                rotate_right
                · exact ⟨by omega, by omega⟩
                · rw [← hset, wy_zero (by omega) hkp, sumR_0, Int.min_eq_left (by omega)]
            · by_cases htT : t < T
              · have hnx := wtK_next (n := n) (b := b) (L := L) (T := T) (most := most) (t := t) (k := k) (by omega)
                have hnxl : (wrow n b L T most (t + 1) n.toNat).length = n.toNat := wrow_len
                by_cases hqn : q < n.toNat
                · have hwy : (wrow n b L T most (t + 1) n.toNat)[q]'(by rw [wrow_len]; omega) = wy n b L T most (t + 1) q := wrow_get _
                  have hwb := wy_nn (n := n) (b := b) (L := L) (T := T) (most := most) hm.1 (t + 1) q
                  have hok : okq n b L t k q ↔ gap n b k q ≤ 1 ∧ ¬ passes (plAt L t) (plAt L ((t : Int) + 1)) k q := Iff.rfl
                  refine Z ?_
                  iterate 2 refine tY (by first | omega | assumption | exact rfl | exact Iff.rfl) ?_
                  refine callW.mk [] 3 _ _ _ (l1Has_c _ (by first | omega | assumption | (simp; omega) | (simp; done)) _) rfl rfl (by repeat' first | exact trivial | assumption | exact knownSS | exact knownApp knownSS knownNil | refine And.intro ?_ ?_) nofun ?_
                  refine tY (by first | omega | assumption | exact rfl | exact Iff.rfl) ?_
                  refine callW.mk [] 3 _ _ _ (l2Gap_c _ _ _ _ (by first | omega | assumption | (simp; omega) | (simp; done)) (by first | omega | assumption | (simp; omega) | (simp; done)) (by first | omega | assumption | (simp; omega) | (simp; done))) rfl rfl (by repeat' first | exact trivial | assumption | exact knownSS | exact knownApp knownSS knownNil | refine And.intro ?_ ?_) nofun ?_
                  refine twoP.mk (fun _ => ?_) (fun _ => ?_)
                  refine nw (by omega) (by omega) ?_
                  refine callW.mk [] 3 _ _ _ (l11At_c _ _ (by first | omega | assumption | (simp; omega) | (simp; done)) (by first | omega | assumption | (simp; omega) | (simp; done)) (by first | omega | assumption | (simp; omega) | (simp; done))) rfl rfl (by repeat' first | exact trivial | assumption | exact knownSS | exact knownApp knownSS knownNil | refine And.intro ?_ ?_) nofun ?_
                  refine callW.mk [] 4 _ _ _ (l11Passes_c _ _ (by first | omega | assumption | (simp; omega) | (simp; done)) (by first | omega | assumption | (simp; omega) | (simp; done)) _ _) rfl rfl (by repeat' first | exact trivial | assumption | exact knownSS | exact knownApp knownSS knownNil | refine And.intro ?_ ?_) nofun ?_
                  refine twoN (fun _ => ?_) (fun _ => ?_)
                  refine nw (by omega) (by omega) ?_
                  iterate 2 refine Z ?_
                  refine jpm (by omega) ?_
                  refine gmv (by omega) hnx ?_
                  refine omv (by omega) hnx ?_
                  iterate 2 refine Z ?_
                  refine jkm (by omega) ?_
                  refine omv (by omega) hnx ?_
                  refine gmv (by omega) hwy ?_
                  refine nw (by omega) (by omega) ?_
                  refine callW.mk [] 4 _ _ _ (least_c _ _) rfl rfl (by repeat' first | exact trivial | assumption | exact knownSS | exact knownApp knownSS knownNil | refine And.intro ?_ ?_) nofun ?_
                  refine nw (by omega) (by omega) ?_
                  rotate_left
                  refine nw (by omega) (by omega) ?_
                  rotate_left
                  refine nw (by omega) (by omega) ?_
                  rotate_left
                  · rename_i h1 h2
                    refine hR3 (q + 1) _ _ ?_ ?_
                    rotate_left
                    refine weak.mk [] [0, 1, 2] rfl rfl ?_ ?_
                    repeat' first | exact trivial | exact rfl | exact Iff.rfl | assumption | exact pureI | exact (show _ = _ by omega) | exact (show _ ≤ _ by omega) | exact (show _ < _ by omega) | exact (show ¬ _ by omega) | refine And.intro ?_ ?_
                    rotate_right
                    · exact ⟨⟨by omega, .inr ⟨htT, hkp⟩⟩, by omega⟩
                    · rw [sumR_succ, if_pos (hok.2 ⟨h1, h2⟩)]; omega
                  · rename_i h1 h2
                    refine hR3 (q + 1) _ _ ?_ ?_
                    rotate_left
                    refine weak.mk [] [0, 1, 2] rfl rfl ?_ ?_
                    repeat' first | exact trivial | exact rfl | exact Iff.rfl | assumption | exact pureI | exact (show _ = _ by omega) | exact (show _ ≤ _ by omega) | exact (show _ < _ by omega) | exact (show ¬ _ by omega) | refine And.intro ?_ ?_
                    rotate_right
                    · exact ⟨⟨by omega, .inr ⟨htT, hkp⟩⟩, by omega⟩
                    · rw [sumR_succ, if_neg (fun h => (hok.1 h).2 h2)]; omega
                  · rename_i h1
                    refine hR3 (q + 1) _ _ ?_ ?_
                    rotate_left
                    refine weak.mk [] [0, 1, 2] rfl rfl ?_ ?_
                    repeat' first | exact trivial | exact rfl | exact Iff.rfl | assumption | exact pureI | exact (show _ = _ by omega) | exact (show _ ≤ _ by omega) | exact (show _ < _ by omega) | exact (show ¬ _ by omega) | refine And.intro ?_ ?_
                    rotate_right
                    · exact ⟨⟨by omega, .inr ⟨htT, hkp⟩⟩, by omega⟩
                    · rw [sumR_succ, if_neg (fun h => h1 (hok.1 h).1)]; omega
                · refine Z ?_
                  iterate 2 refine tN (by first | omega | assumption | exact fun h => h (by assumption) | exact fun h => h rfl | exact fun h => h Iff.rfl) ?_
                  iterate 2 refine Z ?_
                  refine jkm (by omega) ?_
                  refine gmv (by omega) hat ?_
                  iterate 8 refine Z ?_
                  refine omv (by omega) hat ?_
                  iterate 2 refine Z ?_
                  refine lem1 (by omega) ?_
                  refine er ?_
                  refine ea ?_
                  iterate 2 refine Z ?_
                  refine jn (by omega) (by simp; omega) ?_
                  iterate 2 refine Z ?_
                  refine ix (by omega) (by simp; omega) ?_
                  refine Z ?_
                  refine esetSU (by omega) ?_
                  refine nw (by omega) (by omega) ?_
                  rotate_left
                  refine hR2 (k + 1) _ _ ?_ ?_
                  rotate_left
                  refine weak.mk [] [0, 1, 2] rfl rfl ?_ ?_
                  repeat' first | exact trivial | exact rfl | exact Iff.rfl | assumption | exact pureI | exact (show _ = _ by omega) | exact (show _ ≤ _ by omega) | exact (show _ < _ by omega) | exact (show ¬ _ by omega) | refine And.intro ?_ ?_
                  rotate_right
                  · exact ⟨by omega, by omega⟩
                  · rw [← hset, wy_step htT, if_neg hkp, show q = n.toNat by omega]
              · have hq0 : q = 0 := hq2.resolve_right fun h => htT h.1
                subst hq0
                refine Z ?_
                refine tY (by first | omega | assumption | exact rfl | exact Iff.rfl) ?_
                refine tN (by first | omega | assumption | exact fun h => h (by assumption) | exact fun h => h rfl | exact fun h => h Iff.rfl) ?_
                refine tY (by first | omega | assumption | exact rfl | exact Iff.rfl) ?_
                refine callW.mk [] 3 _ _ _ (l1Has_c _ (by first | omega | assumption | (simp; omega) | (simp; done)) _) rfl rfl (by repeat' first | exact trivial | assumption | exact knownSS | exact knownApp knownSS knownNil | refine And.intro ?_ ?_) nofun ?_
                refine tY (by first | omega | assumption | exact rfl | exact Iff.rfl) ?_
                iterate 2 refine Z ?_
                refine jkm (by omega) ?_
                refine gmv (by omega) hat ?_
                iterate 8 refine Z ?_
                refine omv (by omega) hat ?_
                iterate 2 refine Z ?_
                refine lem1 (by omega) ?_
                refine er ?_
                refine ea ?_
                iterate 2 refine Z ?_
                refine jn (by omega) (by simp; omega) ?_
                iterate 2 refine Z ?_
                refine ix (by omega) (by simp; omega) ?_
                refine Z ?_
                refine esetSU (by omega) ?_
                refine nw (by omega) (by omega) ?_
                rotate_left
                refine hR2 (k + 1) _ _ ?_ ?_
                rotate_left
                refine weak.mk [] [0, 1, 2] rfl rfl ?_ ?_
                repeat' first | exact trivial | exact rfl | exact Iff.rfl | assumption | exact pureI | exact (show _ = _ by omega) | exact (show _ ≤ _ by omega) | exact (show _ < _ by omega) | exact (show ¬ _ by omega) | refine And.intro ?_ ?_
                rotate_right
                · exact ⟨by omega, by omega⟩
                · have e : t = T := by omega
                  subst e
                  rw [← hset, wy_last, if_neg hkp]
        · refine Z ?_
          refine tN (by first | omega | assumption | exact fun h => h (by assumption) | exact fun h => h rfl | exact fun h => h Iff.rfl) ?_
          refine nw (by omega) (by omega) ?_
          rotate_left
          refine hR (t) _ _ ?_ ?_
          rotate_left
          refine weak.mk [] [0, 1] rfl rfl ?_ ?_
          repeat' first | exact trivial | exact rfl | exact Iff.rfl | assumption | exact pureI | exact (show _ = _ by omega) | exact (show _ ≤ _ by omega) | exact (show _ < _ by omega) | exact (show ¬ _ by omega) | refine And.intro ?_ ?_
          rotate_right
          · exact ⟨by omega, by omega⟩
          · rw [show k = n.toNat by omega, wtK_n]
theorem sCountFree_c (n : Int) (b : Bool) (L : List (List Int)) (hL : L.length ≤ 1099511627775) (hl : ∀ l ∈ L, l.length ≤ 1099511627776) : C 39 [rd n b, intss L] [] (.tuple [i64 (cntR n b L), pr (cntOk n b L)]) [] false := by
  refine mkC false false Try.func39 rfl ?_
  refine And.intro nofun ?_
  by_cases hc : chasers n b L
  · have hr := hc.1
    have hw : lenOk L := chasers_len hc
    have hb := lng_bd L hw
    have hLl : 1 ≤ L.length := by have := hc.2.2.1; omega
    have hne : L ≠ [] := by rintro rfl; simp at hLl
    have h1 := hb.2.2 hne
    obtain ⟨T, hT⟩ : ∃ T : Nat, lng L = T + 1 := ⟨(lng L - 1).toNat, by omega⟩
    by_cases hT2 : T ≤ 30
    · obtain ⟨most, hm⟩ : ∃ m : Int, m = 2305843009213693952 := ⟨_, rfl⟩
      have hcr := cntR_yes (show cntOk n b L from ⟨hc, by omega⟩) hT
      rw [← hm] at hcr
      rw [hcr]
      have hok : cntOk n b L := ⟨hc, by omega⟩
      have hlen : (wtab n b L T most 0).length = T + 1 := wtab_len 0
      have hg : (wtab n b L T most 0)[0]'(by omega) = wrow n b L T most 0 n.toNat := wtab_get _
      have hgl : (wrow n b L T most 0 n.toNat).length = n.toNat := wrow_len
      have hbd : ∀ k, k ≤ n.toNat → 0 ≤ sumR k (wy n b L T most 0) ∧ sumR k (wy n b L T most 0) ≤ k * 205891132094649 := cnt_bd (by omega) hr.2.1 hT2
      have hways := l11Ways_c n b hr L hL hLl hw T hT most (by omega)
      rw [hm] at hways
      refine Z ?_
      refine callW.mk [] 1 _ _ _ (l11Chasers_c _ _ _ (by first | omega | assumption | (simp; omega) | (simp; done) | exact hl _ (List.getElem_mem _)) (by first | omega | assumption | (simp; omega) | (simp; done) | exact hl _ (List.getElem_mem _))) rfl rfl trivial nofun ?_
      refine tN (by first | omega | assumption | exact fun h => h (by assumption) | exact fun h => h rfl | exact fun h => h Iff.rfl) ?_
      refine callW.mk [] 1 _ _ _ (l11Last_c _ (by first | omega | assumption | (simp; omega) | (simp; done) | exact hl _ (List.getElem_mem _)) (by first | omega | assumption | (simp; omega) | (simp; done) | exact hl _ (List.getElem_mem _)) (by first | omega | assumption | (simp; omega) | (simp; done) | exact hl _ (List.getElem_mem _))) rfl rfl trivial nofun ?_
      refine tN (by first | omega | assumption | exact fun h => h (by assumption) | exact fun h => h rfl | exact fun h => h Iff.rfl) ?_
      refine callW.mk [] 1 _ _ _ (hways) rfl rfl (by repeat' first | exact trivial | assumption | exact knownSS | exact knownApp knownSS knownNil | refine And.intro ?_ ?_) nofun ?_
      rotate_left
      refine loop_up (β := Nat) (fun k => [(8, i64 k), (6, i64 (sumR k (wy n b L T most 0)))]) (fun k => [(1, .row .nest 1 ((wtab n b L T most 0).map ints))]) [] (fun k => k ≤ n.toNat) (fun k => n.toNat - k) (0) ?_ ?_ ?_
      · omega
      · refine weak.mk [] [0, 1] rfl rfl ?_ ?_
        repeat' first | exact trivial | exact rfl | exact Iff.rfl | assumption | exact pureI | exact (show _ = _ by omega) | exact (show _ ≤ _ by omega) | exact (show _ < _ by omega) | exact (show ¬ _ by omega) | refine And.intro ?_ ?_
        rw [hm]
      · rintro k hk R hR
        have hbk := hbd k hk
        by_cases hkn : k < n.toNat
        · have hgk : (wrow n b L T most 0 n.toNat)[k]'(by rw [wrow_len]; omega) = wy n b L T most 0 k := wrow_get _
          have hbk2 := hbd (k + 1) hkn
          rw [sumR_succ] at hbk2
          refine Z ?_
          refine tY (by first | omega | assumption | exact rfl | exact Iff.rfl) ?_
          iterate 2 refine Z ?_
          refine idxN.mk 0 (by omega) (by simp; omega) rfl ?_
          refine gmv (by omega) hg ?_
          refine omv (by omega) hg ?_
          iterate 2 refine Z ?_
          refine jkm (by omega) ?_
          refine omv (by omega) hg ?_
          refine gmv (by omega) hgk ?_
          iterate 2 refine nw (by omega) (by omega) ?_
          rotate_left
          refine hR (k + 1) _ _ ?_ ?_
          rotate_left
          refine weak.mk [] [0, 1] rfl rfl ?_ ?_
          repeat' first | exact trivial | exact rfl | exact Iff.rfl | assumption | exact pureI | exact (show _ = _ by omega) | exact (show _ ≤ _ by omega) | exact (show _ < _ by omega) | exact (show ¬ _ by omega) | refine And.intro ?_ ?_
          rotate_right
          · exact ⟨by omega, by omega⟩
          · rw [sumR_succ]
        · refine Z ?_
          refine tN (by first | omega | assumption | exact fun h => h (by assumption) | exact fun h => h rfl | exact fun h => h Iff.rfl) ?_
          rotate_left
          refine doneV.mk [] [] rfl rfl ?_ ?_ ?_
          repeat' first | exact trivial | exact rfl | exact Iff.rfl | assumption | exact pureI | exact (show _ = _ by omega) | exact (show _ ≤ _ by omega) | exact (show _ < _ by omega) | exact (show ¬ _ by omega) | refine And.intro ?_ ?_
          · rw [show k = n.toNat by omega]
    · refine Z ?_
      refine callW.mk [] 1 _ _ _ (l11Chasers_c _ _ _ (by first | omega | assumption | (simp; omega) | (simp; done) | exact hl _ (List.getElem_mem _)) (by first | omega | assumption | (simp; omega) | (simp; done) | exact hl _ (List.getElem_mem _))) rfl rfl trivial nofun ?_
      refine tN (by first | omega | assumption | exact fun h => h (by assumption) | exact fun h => h rfl | exact fun h => h Iff.rfl) ?_
      refine callW.mk [] 1 _ _ _ (l11Last_c _ (by first | omega | assumption | (simp; omega) | (simp; done) | exact hl _ (List.getElem_mem _)) (by first | omega | assumption | (simp; omega) | (simp; done) | exact hl _ (List.getElem_mem _)) (by first | omega | assumption | (simp; omega) | (simp; done) | exact hl _ (List.getElem_mem _))) rfl rfl trivial nofun ?_
      refine tY (by first | omega | assumption | exact rfl | exact Iff.rfl) ?_
      rotate_left
      rw [cntR_no fun h => hT2 (by have := h.2; omega)]
      refine doneV.mk [] [] rfl rfl ?_ ?_ ?_
      repeat' first | exact trivial | exact rfl | exact Iff.rfl | assumption | exact pureI | exact (show _ = _ by omega) | exact (show _ ≤ _ by omega) | exact (show _ < _ by omega) | exact (show ¬ _ by omega) | refine And.intro ?_ ?_
      exact (show ¬ _ from fun h => hT2 (by have := h.2; omega))
  · refine Z ?_
    refine callW.mk [] 1 _ _ _ (l11Chasers_c _ _ _ (by first | omega | assumption | (simp; omega) | (simp; done) | exact hl _ (List.getElem_mem _)) (by first | omega | assumption | (simp; omega) | (simp; done) | exact hl _ (List.getElem_mem _))) rfl rfl trivial nofun ?_
    refine tY (by first | omega | assumption | exact rfl | exact Iff.rfl) ?_
    rotate_left
    rw [cntR_no fun h => hc h.1]
    refine doneV.mk [] [] rfl rfl ?_ ?_ ?_
    repeat' first | exact trivial | exact rfl | exact Iff.rfl | assumption | exact pureI | exact (show _ = _ by omega) | exact (show _ ≤ _ by omega) | exact (show _ < _ by omega) | exact (show ¬ _ by omega) | refine And.intro ?_ ?_
    exact (show ¬ _ from fun h => hc h.1)
theorem FnExactCountFree_c (n : Int) (b : Bool) (L : List (List Int)) (hL : L.length ≤ 9223372036854775807) (hl : ∀ l ∈ L, l.length ≤ 9223372036854775807) : C 9 [rd n b, intss L] [] .tt [] false := by
  refine mkC false false Try.func9 rfl ?_
  refine And.intro nofun ?_
  by_cases hs : szSS L 1048576 < 0
  · refine Z ?_
    refine callW.mk [] 1 _ _ _ (szIntSS_c _ (by first | omega | assumption | (simp; omega) | (simp; done) | exact hl _ (List.getElem_mem _)) (by first | omega | assumption | (simp; omega) | (simp; done) | exact hl _ (List.getElem_mem _)) _ (by first | omega | assumption | (simp; omega) | (simp; done) | exact hl _ (List.getElem_mem _)) (by first | omega | assumption | (simp; omega) | (simp; done) | exact hl _ (List.getElem_mem _))) rfl rfl trivial nofun ?_
    refine tY (by first | omega | assumption | exact rfl | exact Iff.rfl) ?_
    rotate_left
    all_goals exact dv0 rfl trivial
  · obtain ⟨h1, h2⟩ := szSS_ok hs
    have h3 : ∀ l ∈ L, l.length ≤ 1099511627776 := fun l h => by have := h2 l h; omega
    refine Z ?_
    refine callW.mk [] 1 _ _ _ (szIntSS_c _ (by first | omega | assumption | (simp; omega) | (simp; done) | exact hl _ (List.getElem_mem _) | exact h2 _ (List.getElem_mem _) | exact h3 _ (List.getElem_mem _)) (by first | omega | assumption | (simp; omega) | (simp; done) | exact hl _ (List.getElem_mem _) | exact h2 _ (List.getElem_mem _) | exact h3 _ (List.getElem_mem _)) _ (by first | omega | assumption | (simp; omega) | (simp; done) | exact hl _ (List.getElem_mem _) | exact h2 _ (List.getElem_mem _) | exact h3 _ (List.getElem_mem _)) (by first | omega | assumption | (simp; omega) | (simp; done) | exact hl _ (List.getElem_mem _) | exact h2 _ (List.getElem_mem _) | exact h3 _ (List.getElem_mem _))) rfl rfl trivial nofun ?_
    refine tN (by first | omega | assumption | exact fun h => h (by assumption) | exact fun h => h rfl | exact fun h => h Iff.rfl) ?_
    refine callW.mk [] 1 _ _ _ (toRoad_c _ _) rfl rfl trivial nofun ?_
    refine callW.mk [] 1 _ _ _ (toIntSS_c _ (by first | omega | assumption | (simp; omega) | (simp; done) | exact hl _ (List.getElem_mem _) | exact h2 _ (List.getElem_mem _) | exact h3 _ (List.getElem_mem _)) (by first | omega | assumption | (simp; omega) | (simp; done) | exact hl _ (List.getElem_mem _) | exact h2 _ (List.getElem_mem _) | exact h3 _ (List.getElem_mem _))) rfl rfl trivial nofun ?_
    refine callW.mk [] 2 _ _ _ (sCountFree_c _ _ _ (by first | omega | assumption | (simp; omega) | (simp; done) | exact hl _ (List.getElem_mem _) | exact h2 _ (List.getElem_mem _) | exact h3 _ (List.getElem_mem _)) (by first | omega | assumption | (simp; omega) | (simp; done) | exact hl _ (List.getElem_mem _) | exact h2 _ (List.getElem_mem _) | exact h3 _ (List.getElem_mem _))) rfl rfl (by repeat' first | exact trivial | assumption | exact knownSS | exact knownApp knownSS knownNil | refine And.intro ?_ ?_) nofun ?_
    refine callW.mk [] 2 _ _ _ (toIntSS_c _ (by first | omega | assumption | (simp; omega) | (simp; done) | exact hl _ (List.getElem_mem _) | exact h2 _ (List.getElem_mem _) | exact h3 _ (List.getElem_mem _)) (by first | omega | assumption | (simp; omega) | (simp; done) | exact hl _ (List.getElem_mem _) | exact h2 _ (List.getElem_mem _) | exact h3 _ (List.getElem_mem _))) rfl rfl (by repeat' first | exact trivial | assumption | exact knownSS | exact knownApp knownSS knownNil | refine And.intro ?_ ?_) nofun ?_
    refine callW.mk [] 3 _ _ _ (toRoad_c _ _) rfl rfl (by repeat' first | exact trivial | assumption | exact knownSS | exact knownApp knownSS knownNil | refine And.intro ?_ ?_) nofun ?_
    refine callW.mk [] 3 _ _ _ (CountFree_c _ _ _ (by first | omega | assumption | (simp; omega) | (simp; done) | exact hl _ (List.getElem_mem _) | exact h2 _ (List.getElem_mem _) | exact h3 _ (List.getElem_mem _)) (by first | omega | assumption | (simp; omega) | (simp; done) | exact hl _ (List.getElem_mem _) | exact h2 _ (List.getElem_mem _) | exact h3 _ (List.getElem_mem _))) rfl rfl (by repeat' first | exact trivial | assumption | exact knownSS | exact knownApp knownSS knownNil | refine And.intro ?_ ?_) nofun ?_
    iterate 2 refine tN (by first | omega | assumption | exact fun h => h (by assumption) | exact fun h => h rfl | exact fun h => h Iff.rfl) ?_
    refine callW.mk [] 3 _ _ _ (toIntSS_c _ (by first | omega | assumption | (simp; omega) | (simp; done) | exact hl _ (List.getElem_mem _) | exact h2 _ (List.getElem_mem _) | exact h3 _ (List.getElem_mem _)) (by first | omega | assumption | (simp; omega) | (simp; done) | exact hl _ (List.getElem_mem _) | exact h2 _ (List.getElem_mem _) | exact h3 _ (List.getElem_mem _))) rfl rfl (by repeat' first | exact trivial | assumption | exact knownSS | exact knownApp knownSS knownNil | refine And.intro ?_ ?_) nofun ?_
    refine callW.mk [] 4 _ _ _ (eqIntSS_c _ _ (by first | omega | assumption | (simp; omega) | (simp; done) | exact hl _ (List.getElem_mem _) | exact h2 _ (List.getElem_mem _) | exact h3 _ (List.getElem_mem _)) (by first | omega | assumption | (simp; omega) | (simp; done) | exact hl _ (List.getElem_mem _) | exact h2 _ (List.getElem_mem _) | exact h3 _ (List.getElem_mem _)) (by first | omega | assumption | (simp; omega) | (simp; done) | exact hl _ (List.getElem_mem _) | exact h2 _ (List.getElem_mem _) | exact h3 _ (List.getElem_mem _)) (by first | omega | assumption | (simp; omega) | (simp; done) | exact hl _ (List.getElem_mem _) | exact h2 _ (List.getElem_mem _) | exact h3 _ (List.getElem_mem _))) rfl rfl (by repeat' first | exact trivial | assumption | exact knownSS | exact knownApp knownSS knownNil | refine And.intro ?_ ?_) nofun ?_
    refine tN (by first | omega | assumption | exact fun h => h (by assumption) | exact fun h => h rfl | exact fun h => h Iff.rfl) ?_
    rotate_left
    refine doneV.mk [] [] rfl rfl ?_ ?_ ?_
    repeat' first | exact trivial | exact rfl | exact Iff.rfl | assumption | exact pureI | exact (show _ = _ by omega) | exact (show _ ≤ _ by omega) | exact (show _ < _ by omega) | exact (show ¬ _ by omega) | refine And.intro ?_ ?_
end Sx
