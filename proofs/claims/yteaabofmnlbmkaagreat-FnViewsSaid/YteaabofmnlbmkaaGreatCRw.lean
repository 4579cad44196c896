/- Contracts: the elected robot. -/
import Derived.Test.YteaabofmnlbmkaaGreatSyC
import Derived.Test.YteaabofmnlbmkaaGreatCRp
import Derived.Test.YteaabofmnlbmkaaGreatCRs
import Derived.Test.YteaabofmnlbmkaaGreatMxA
set_option linter.all false
namespace Sx
open Go Go.Proofs
set_option maxRecDepth 100000
set_option maxHeartbeats 8000000
set_option linter.unusedSimpArgs false
set_option linter.unusedSectionVars false
variable [Glb]
theorem ContainsPart_c (X : List Int) (hX : X.length ≤ 1099511627776) (k : Nat) (r : Int) : C 102 [.sl 1 (((X.map i64).drop (k + 1)).take ((X.map i64).length - (k + 1))), i64 r] [] (pr (r ∈ X.drop (k + 1))) [] false := by
  have e : ((X.map i64).drop (k + 1)).take ((X.map i64).length - (k + 1)) = (X.drop (k + 1)).map i64 := by
    rw [List.take_of_length_le (by rw [List.length_drop]; exact Nat.le_refl _), List.map_drop]
  rw [e]
  exact Contains_c (X.drop (k + 1)) (by rw [List.length_drop]; omega) r
theorem elect_c (n : Int) (l : List Int) (hc : crowd n l) : C 63 [.agg [i64 n, ints l]] [] (i64 (elP n l)) [] false := by
  have hn := hc.1.1
  have hl := hc.1.2
  obtain ⟨X, hX⟩ : ∃ X, ranksL n l = X := ⟨_, rfl⟩
  have hXl : X.length = l.length := by rw [← hX, ranksL_len]
  have hXb : (∀ x ∈ X, 0 ≤ x ∧ x < X.length) ∧ True := ⟨fun x hx => by rw [hXl]; exact ranksL_in n l x (by rw [hX]; exact hx), trivial⟩
  have hE : elI n l = elK X X.length := by unfold elI; rw [hX, hXl]
  refine mkC false false Tryz.func63 rfl ?_; refine And.intro nofun ?_; refine Z ?_; refine callW.mk [] 1 _ _ _ (ranks_c _ _ oka) rfl rfl trivial nofun ?_; refine lm ?_; rotate_left
  rw [hX]
  refine loop_up (β := Nat) (fun r => [(10, i64 r), (2, .unk)]) (fun r => []) [] (fun r => r ≤ l.length ∧ elInv X r) (fun r => l.length - r) (0) ?_ ?_ ?_
  · exact ⟨Nat.zero_le _, el_start hXb.1⟩
  · refine weak.mk [] [0, 1] rfl rfl ?_ ?_
    repeat' first | exact trivial | exact rfl | exact Iff.rfl | assumption | exact pureI | exact (show _ = _ by omega) | exact (show _ ≤ _ by omega) | exact (show _ < _ by omega) | exact (show ¬ _ by omega) | refine And.intro ?_ ?_
  · rintro r ⟨hr, hi⟩ R hR
    have hq := Index_c X (by omega) (r : Int)
    by_cases hrl : r < l.length
    · by_cases hm : (r : Int) ∈ X
      · obtain ⟨k, hk, hix, hkr, hk1⟩ := ix_first hm
        rw [hix] at hq
        by_cases hm2 : (r : Int) ∈ X.drop (k + 1)
        · have hnx := el_next hi (el_many hk hkr hm2)
          refine tY oky ?_; refine callW.mk [] 2 _ _ _ (hq) rfl rfl okk nofun ?_; refine tY oky ?_; refine nw (by omega) (by omega) ?_; iterate 2 refine Z ?_
          refine jpm1 (by omega) ?_; refine callW.mk [] 2 _ _ _ (ContainsPart_c _ oka _ _) rfl rfl trivial nofun ?_; refine tN okn ?_; refine nw (by omega) (by omega) ?_; rotate_left; refine hR (r + 1) _ _ ?_ ?_; rotate_left; refine weak.mk [] [0, 1] rfl rfl ?_ ?_
          repeat' first | exact trivial | exact rfl | exact Iff.rfl | assumption | exact pureI | exact (show _ = _ by omega) | exact (show _ ≤ _ by omega) | exact (show _ < _ by omega) | exact (show ¬ _ by omega) | refine And.intro ?_ ?_
          rotate_right
          exact ⟨⟨by omega, by exact_mod_cast hnx⟩, by omega⟩
        · have hf := el_found hi hk hkr hk1 hm2
          have hP : elP n l = l[k]'(by omega) := by
            unfold elP
            rw [hE, hf, if_neg (by omega), Int.toNat_natCast, elI_get (by omega)]
          rw [hP]
          refine tY oky ?_; refine callW.mk [] 2 _ _ _ (hq) rfl rfl okk nofun ?_; refine tY oky ?_; refine nw (by omega) (by omega) ?_; iterate 2 refine Z ?_
          refine jpm1 (by omega) ?_; refine callW.mk [] 2 _ _ _ (ContainsPart_c _ oka _ _) rfl rfl trivial nofun ?_; refine tY oky ?_; iterate 3 refine Z ?_
          refine jkm (by omega) ?_; refine gm (by omega) ?_; rotate_left; refine doneV.mk [] [] rfl rfl ?_ ?_ ?_
          repeat' first | exact trivial | exact rfl | exact Iff.rfl | assumption | exact pureI | exact (show _ = _ by omega) | exact (show _ ≤ _ by omega) | exact (show _ < _ by omega) | exact (show ¬ _ by omega) | refine And.intro ?_ ?_
      · have hnx := el_next hi (el_zero hm)
        rw [ixOf_no (fun y hy e => hm (by rw [← e]; exact hy))] at hq
        refine tY oky ?_; refine callW.mk [] 2 _ _ _ (hq) rfl rfl okk nofun ?_; refine tN okn ?_; refine nw (by omega) (by omega) ?_; rotate_left; refine hR (r + 1) _ _ ?_ ?_; rotate_left; refine weak.mk [] [0, 1] rfl rfl ?_ ?_
        repeat' first | exact trivial | exact rfl | exact Iff.rfl | assumption | exact pureI | exact (show _ = _ by omega) | exact (show _ ≤ _ by omega) | exact (show _ < _ by omega) | exact (show ¬ _ by omega) | refine And.intro ?_ ?_
        rotate_right
        exact ⟨⟨by omega, by exact_mod_cast hnx⟩, by omega⟩
    · have hP : elP n l = -1 := by
        unfold elP
        rw [hE, el_none (by rw [hXl, ← show r = l.length by omega]; exact hi) hXb.1]
        rfl
      rw [hP]
      refine tN okn ?_; rotate_left; refine doneV.mk [] [] rfl rfl ?_ ?_ ?_
      repeat' first | exact trivial | exact rfl | exact Iff.rfl | assumption | exact pureI | exact (show _ = _ by omega) | exact (show _ ≤ _ by omega) | exact (show _ < _ by omega) | exact (show ¬ _ by omega) | refine And.intro ?_ ?_
theorem l10Elect_c (n : Int) (l : List Int) (hc : crowd n l) : C 64 [.agg [i64 n, ints l]] [] (i64 (elI n l)) [] false := by
  have hn := hc.1.1
  have hl := hc.1.2
  obtain ⟨X, hX⟩ : ∃ X, ranksL n l = X := ⟨_, rfl⟩
  have hXl : X.length = l.length := by rw [← hX, ranksL_len]
  have hE : elI n l = elK X l.length := by unfold elI; rw [hX]
  rw [hE]
  refine mkC false false Tryz.func64 rfl ?_; refine And.intro nofun ?_; refine Z ?_; refine callW.mk [] 1 _ _ _ (l10Ranks_c _ _ oka) rfl rfl trivial nofun ?_; rotate_left
  rw [hX]
  refine loop_up (β := Nat) (fun k => [(4, i64 (elK X k)), (5, i64 k)]) (fun k => []) [] (fun k => k ≤ l.length) (fun k => l.length - k) (0) ?_ ?_ ?_
  · exact Nat.zero_le _
  · refine weak.mk [] [0, 1] rfl rfl ?_ ?_
    repeat' first | exact trivial | exact rfl | exact Iff.rfl | assumption | exact pureI | exact (show _ = _ by omega) | exact (show _ ≤ _ by omega) | exact (show _ < _ by omega) | exact (show ¬ _ by omega) | refine And.intro ?_ ?_
  · rintro k hk R hR
    by_cases hkl : k < l.length
    · obtain ⟨x, hx⟩ : ∃ x, X[k]'(by omega) = x := ⟨_, rfl⟩
      have hxg : X.getD k 0 = x := by rw [elI_get (by omega), hx]
      refine lm ?_; refine tY oky ?_; rotate_left; refine loop_up (β := Nat) (fun j => [(6, i64 (((X.take j).count x : Nat) : Int)), (7, i64 j)]) (fun j => []) [] (fun j => j ≤ l.length) (fun j => l.length - j) (0) ?_ ?_ ?_
      · exact Nat.zero_le _
      · refine weak.mk [] [0, 1] rfl rfl ?_ ?_
        repeat' first | exact trivial | exact rfl | exact Iff.rfl | assumption | exact pureI | exact (show _ = _ by omega) | exact (show _ ≤ _ by omega) | exact (show _ < _ by omega) | exact (show ¬ _ by omega) | refine And.intro ?_ ?_
      · rintro j hj R2 hR2
        by_cases hjl : j < l.length
        · have hct := count_take (R := X) (k := j) (by omega) x
          have hcb : (X.take j).count x ≤ j := by
            have := List.count_le_length (a := x) (l := X.take j)
            rw [List.length_take] at this
            omega
          by_cases he : X[j]'(by omega) = x
          · rw [if_pos he] at hct
            refine lm ?_; refine tY oky ?_; refine drawP.mk 9 (Z (Z (Z (Z ?_))))
            apply exP.mk
            exact rfl
            apply exP.mk
            exact rfl
            apply exP.mk
            iterate 2 refine Z ?_
            refine jkm (by omega) ?_
            exact rfl
            apply exP.mk
            refine gmv (by omega) he ?_
            exact rfl
            apply exP.mk
            exact rfl
            apply exP.mk
            exact rfl
            apply exP.mk
            iterate 2 refine Z ?_
            refine jkm (by omega) ?_
            exact rfl
            apply exP.mk
            refine gmv (by omega) hx ?_
            exact rfl
            apply exP.mk
            exact rfl
            refine tY oky ?_; iterate 2 refine nw (by omega) (by omega) ?_
            rotate_left; refine hR2 (j + 1) _ _ ?_ ?_
            rotate_left; refine weak.mk [] [0, 1] rfl rfl ?_ ?_
            repeat' first | exact trivial | exact rfl | exact Iff.rfl | assumption | exact pureI | exact (show _ = _ by omega) | exact (show _ ≤ _ by omega) | exact (show _ < _ by omega) | exact (show ¬ _ by omega) | refine And.intro ?_ ?_
            rotate_right
            exact ⟨by omega, by omega⟩
          · rw [if_neg he] at hct
            refine lm ?_; refine tY oky ?_; refine drawP.mk 9 (Z (Z (Z (Z ?_))))
            apply exP.mk
            exact rfl
            apply exP.mk
            exact rfl
            apply exP.mk
            iterate 2 refine Z ?_
            refine jkm (by omega) ?_
            exact rfl
            apply exP.mk
            refine gm (by omega) ?_
            exact rfl
            apply exP.mk
            exact rfl
            apply exP.mk
            exact rfl
            apply exP.mk
            iterate 2 refine Z ?_
            refine jkm (by omega) ?_
            exact rfl
            apply exP.mk
            refine gmv (by omega) hx ?_
            exact rfl
            apply exP.mk
            exact rfl
            refine tN okn ?_; refine nw (by omega) (by omega) ?_; rotate_left; refine hR2 (j + 1) _ _ ?_ ?_; rotate_left; refine weak.mk [] [0, 1] rfl rfl ?_ ?_
            repeat' first | exact trivial | exact rfl | exact Iff.rfl | assumption | exact pureI | exact (show _ = _ by omega) | exact (show _ ≤ _ by omega) | exact (show _ < _ by omega) | exact (show ¬ _ by omega) | refine And.intro ?_ ?_
            rotate_right
            exact ⟨by omega, by omega⟩
        · rw [List.take_of_length_le (by omega)]
          have hcb := List.count_le_length (a := x) (l := X)
          by_cases c1 : X.count x = 1
          · by_cases c2 : elK X k < 0
            · have hq := elK_yes (R := X) (k := k) ⟨by rw [hxg]; exact c1, .inl c2⟩
              refine lm ?_; refine tN okn ?_; refine drawP.mk 17 (Z (Z (Z (Z ?_))))
              apply exP.mk
              exact rfl
              apply exP.mk
              exact rfl
              apply exP.mk
              exact rfl
              refine tY oky ?_
              apply exP.mk
              exact rfl
              apply exP.mk
              exact rfl
              apply exP.mk
              exact rfl
              refine tY oky ?_; refine nw (by omega) (by omega) ?_; rotate_left; refine hR (k + 1) _ _ ?_ ?_; rotate_left; refine weak.mk [] [0, 1] rfl rfl ?_ ?_
              repeat' first | exact trivial | exact rfl | exact Iff.rfl | assumption | exact pureI | exact (show _ = _ by omega) | exact (show _ ≤ _ by omega) | exact (show _ < _ by omega) | exact (show ¬ _ by omega) | refine And.intro ?_ ?_
              rotate_right
              exact ⟨by omega, by omega⟩
            · obtain ⟨e, he⟩ : ∃ e : Nat, elK X k = e := ⟨(elK X k).toNat, by omega⟩
              have hek := elK_bd X k
              have heg : X.getD e 0 = X[e]'(by omega) := elI_get (by omega)
              by_cases c3 : x < X[e]'(by omega)
              · have hq := elK_yes (R := X) (k := k) ⟨by rw [hxg]; exact c1, .inr (by rw [hxg, he, Int.toNat_natCast, heg]; exact c3)⟩
                rw [he]
                refine lm ?_; refine tN okn ?_; refine drawP.mk 17 (Z (Z (Z (Z ?_))))
                apply exP.mk
                exact rfl
                apply exP.mk
                exact rfl
                apply exP.mk
                exact rfl
                refine tY oky ?_
                apply exP.mk
                exact rfl
                apply exP.mk
                exact rfl
                apply exP.mk
                exact rfl
                refine tN okn ?_
                apply exP.mk
                exact rfl
                apply exP.mk
                exact rfl
                apply exP.mk
                iterate 2 refine Z ?_
                refine jkm (by omega) ?_
                exact rfl
                apply exP.mk
                refine gmv (by omega) hx ?_
                exact rfl
                apply exP.mk
                exact rfl
                apply exP.mk
                exact rfl
                apply exP.mk
                iterate 2 refine Z ?_
                refine jkm (by omega) ?_
                exact rfl
                apply exP.mk
                refine gm (by omega) ?_
                exact rfl
                apply exP.mk
                exact rfl
                refine tY oky ?_; refine nw (by omega) (by omega) ?_; rotate_left; refine hR (k + 1) _ _ ?_ ?_; rotate_left; refine weak.mk [] [0, 1] rfl rfl ?_ ?_
                repeat' first | exact trivial | exact rfl | exact Iff.rfl | assumption | exact pureI | exact (show _ = _ by omega) | exact (show _ ≤ _ by omega) | exact (show _ < _ by omega) | exact (show ¬ _ by omega) | refine And.intro ?_ ?_
                rotate_right
                exact ⟨by omega, by omega⟩
              · have hq := elK_no (R := X) (k := k) (fun h => by
                  have h2 := h.2
                  rw [hxg, he, Int.toNat_natCast, heg] at h2
                  omega)
                rw [he]
                refine lm ?_; refine tN okn ?_; refine drawP.mk 17 (Z (Z (Z (Z ?_))))
                apply exP.mk
                exact rfl
                apply exP.mk
                exact rfl
                apply exP.mk
                exact rfl
                refine tY oky ?_
                apply exP.mk
                exact rfl
                apply exP.mk
                exact rfl
                apply exP.mk
                exact rfl
                refine tN okn ?_
                apply exP.mk
                exact rfl
                apply exP.mk
                exact rfl
                apply exP.mk
                iterate 2 refine Z ?_
                refine jkm (by omega) ?_
                exact rfl
                apply exP.mk
                refine gmv (by omega) hx ?_
                exact rfl
                apply exP.mk
                exact rfl
                apply exP.mk
                exact rfl
                apply exP.mk
                iterate 2 refine Z ?_
                refine jkm (by omega) ?_
                exact rfl
                apply exP.mk
                refine gm (by omega) ?_
                exact rfl
                apply exP.mk
                exact rfl
                refine tN okn ?_; refine nw (by omega) (by omega) ?_; rotate_left; refine hR (k + 1) _ _ ?_ ?_; rotate_left; refine weak.mk [] [0, 1] rfl rfl ?_ ?_
                repeat' first | exact trivial | exact rfl | exact Iff.rfl | assumption | exact pureI | exact (show _ = _ by omega) | exact (show _ ≤ _ by omega) | exact (show _ < _ by omega) | exact (show ¬ _ by omega) | refine And.intro ?_ ?_
                rotate_right
                exact ⟨by omega, by omega⟩
          · have hq := elK_no (R := X) (k := k) (fun h => by rw [hxg] at h; exact c1 h.1)
            refine lm ?_; refine tN okn ?_; refine drawP.mk 17 (Z (Z (Z (Z ?_))))
            apply exP.mk
            exact rfl
            apply exP.mk
            exact rfl
            apply exP.mk
            exact rfl
            refine tN okn ?_; refine nw (by omega) (by omega) ?_; rotate_left; refine hR (k + 1) _ _ ?_ ?_; rotate_left; refine weak.mk [] [0, 1] rfl rfl ?_ ?_
            repeat' first | exact trivial | exact rfl | exact Iff.rfl | assumption | exact pureI | exact (show _ = _ by omega) | exact (show _ ≤ _ by omega) | exact (show _ < _ by omega) | exact (show ¬ _ by omega) | refine And.intro ?_ ?_
            rotate_right
            exact ⟨by omega, by omega⟩
    · have hke : k = l.length := by omega
      rw [hke]
      refine lm ?_; refine tN okn ?_; rotate_left; refine doneV.mk [] [] rfl rfl ?_ ?_ ?_
      repeat' first | exact trivial | exact rfl | exact Iff.rfl | assumption | exact pureI | exact (show _ = _ by omega) | exact (show _ ≤ _ by omega) | exact (show _ < _ by omega) | exact (show ¬ _ by omega) | refine And.intro ?_ ?_
end Sx
