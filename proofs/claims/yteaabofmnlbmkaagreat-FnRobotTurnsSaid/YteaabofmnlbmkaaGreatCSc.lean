/- Contracts: a turn of a crowd. -/
import Derived.Test.YteaabofmnlbmkaaGreatSyC
import Derived.Test.YteaabofmnlbmkaaGreatCRp
import Derived.Test.YteaabofmnlbmkaaGreatCRs
import Derived.Test.YteaabofmnlbmkaaGreatMxA
set_option linter.all false
namespace Sx
open Go Go.Proofs
set_option maxRecDepth 100000
set_option maxHeartbeats 8000000
set_option linter.unusedSimpArgs false
set_option linter.unusedSectionVars false
variable [Glb]
theorem IsRobotRule_c (r : List Int) (hr : r.length ≤ 1099511627776) : C 39 [ints r] [] (pr (isRule r)) [] false := by
  refine mkC false false Tryz.func39 rfl ?_; refine And.intro nofun ?_
  by_cases h : r.length = 6
  · refine lm ?_
    refine tY oky ?_; refine callW.mk [] 0 _ _ _ (allWithin_c _ oka _ _) rfl rfl trivial nofun ?_; rotate_left; refine doneV.mk [] [] rfl rfl ?_ ?_ ?_
    repeat' first | exact trivial | exact rfl | exact Iff.rfl | assumption | exact pureI | exact (show _ = _ by omega) | exact (show _ ≤ _ by omega) | exact (show _ < _ by omega) | exact (show ¬ _ by omega) | refine And.intro ?_ ?_
    all_goals exact Iff.intro (fun x => ⟨by omega, x⟩) (fun x => x.2)
  · refine lm ?_
    refine tN okn ?_; rotate_left; refine doneV.mk [] [] rfl rfl ?_ ?_ ?_
    repeat' first | exact trivial | exact rfl | exact Iff.rfl | assumption | exact pureI | exact (show _ = _ by omega) | exact (show _ ≤ _ by omega) | exact (show _ < _ by omega) | exact (show ¬ _ by omega) | refine And.intro ?_ ?_
    all_goals exact fun x => h (by have := x.1; omega)
theorem l10Rule_c (r : List Int) (hr : r.length ≤ 1099511627776) : C 71 [ints r] [] (pr (isRule r)) [] false := by
  refine mkC false false Tryz.func71 rfl ?_; refine And.intro nofun ?_; rotate_left; refine loop_up (β := Nat) (fun k => [(3, i64 k), (2, .unk)]) (fun k => []) [] (fun k => k ≤ r.length ∧ k ≤ 7 ∧ ∀ x ∈ r.take k, -1 ≤ x ∧ x ≤ 1) (fun k => r.length - k) (0) ?_ ?_ ?_
  · exact ⟨Nat.zero_le _, Nat.zero_le _, fun x hx => by simp at hx⟩
  · refine weak.mk [] [] rfl rfl ?_ ?_
    repeat' first | exact trivial | exact rfl | exact Iff.rfl | assumption | exact pureI | exact (show _ = _ by omega) | exact (show _ ≤ _ by omega) | exact (show _ < _ by omega) | exact (show ¬ _ by omega) | refine And.intro ?_ ?_
  · rintro k ⟨hk, hk7, hi⟩ R hR
    by_cases hkl : k < r.length
    · by_cases hk6 : k ≤ 6
      · by_cases hb : -1 ≤ r[k] ∧ r[k] ≤ 1
        · have hi2 := (all_take (P := fun x => -1 ≤ x ∧ x ≤ 1) hkl).2 ⟨hi, hb⟩
          refine lm ?_; iterate 2 refine tY oky ?_
          iterate 2 refine Z ?_
          refine jkm (by omega) ?_; refine gm (by omega) ?_; refine callW.mk [] 0 _ _ _ (in_c _ _ _) rfl rfl trivial nofun ?_; refine tN okn ?_; refine nw (by omega) (by omega) ?_; rotate_left; refine hR (k + 1) _ _ ?_ ?_; rotate_left; refine weak.mk [] [] rfl rfl ?_ ?_
          repeat' first | exact trivial | exact rfl | exact Iff.rfl | assumption | exact pureI | exact (show _ = _ by omega) | exact (show _ ≤ _ by omega) | exact (show _ < _ by omega) | exact (show ¬ _ by omega) | refine And.intro ?_ ?_
          rotate_right
          exact ⟨⟨by omega, by omega, hi2⟩, by omega⟩
        · refine lm ?_
          iterate 2 refine tY oky ?_
          iterate 2 refine Z ?_
          refine jkm (by omega) ?_; refine gm (by omega) ?_; refine callW.mk [] 0 _ _ _ (in_c _ _ _) rfl rfl trivial nofun ?_; refine tY oky ?_; rotate_left; refine doneV.mk [] [] rfl rfl ?_ ?_ ?_
          repeat' first | exact trivial | exact rfl | exact Iff.rfl | assumption | exact pureI | exact (show _ = _ by omega) | exact (show _ ≤ _ by omega) | exact (show _ < _ by omega) | exact (show ¬ _ by omega) | refine And.intro ?_ ?_
          all_goals exact fun x => hb (x.2 _ (List.getElem_mem hkl))
      · refine lm ?_
        refine tY oky ?_; refine tN okn ?_; refine lm ?_; rotate_left; refine doneV.mk [] [] rfl rfl ?_ ?_ ?_
        repeat' first | exact trivial | exact rfl | exact Iff.rfl | assumption | exact pureI | exact (show _ = _ by omega) | exact (show _ ≤ _ by omega) | exact (show _ < _ by omega) | exact (show ¬ _ by omega) | refine And.intro ?_ ?_
        all_goals exact Iff.intro (fun x => absurd x (by omega)) (fun x => by have := x.1; omega)
    · rw [List.take_of_length_le (by omega)] at hi
      refine lm ?_; refine tN okn ?_; refine lm ?_; rotate_left; refine doneV.mk [] [] rfl rfl ?_ ?_ ?_
      repeat' first | exact trivial | exact rfl | exact Iff.rfl | assumption | exact pureI | exact (show _ = _ by omega) | exact (show _ ≤ _ by omega) | exact (show _ < _ by omega) | exact (show ¬ _ by omega) | refine And.intro ?_ ?_
      all_goals exact Iff.intro (fun x => ⟨by omega, hi⟩) (fun x => by have := x.1; omega)
theorem putOld_c (n : Int) (A : List Int) (x : Int) (hA : (srt n A).length ≤ 1000) (hn : x ∈ srt n A) : C 103 [.loc 0, i64 x] [row (srt n A)] (.loc 0) [row (srt n A)] false := by
  obtain ⟨S, hS⟩ : ∃ S, srt n A = S := ⟨_, rfl⟩
  have hp := srt_pw n A
  rw [hS] at hA hn hp ⊢
  have hS1 : S.length ≤ 1000 := hA
  refine mkC false false Tryz.func103 rfl ?_; refine And.intro nofun ?_; rotate_left; refine loop_up (β := Nat) (fun k => [(5, i64 k)]) (fun k => []) [] (fun k => k ≤ S.length ∧ ∀ y ∈ S.take k, y < x) (fun k => S.length - k) (0) ?_ ?_ ?_
  · exact ⟨Nat.zero_le _, fun y hy => by simp at hy⟩
  · refine weak.mk [] [0] rfl rfl ?_ ?_
    repeat' first | exact trivial | exact rfl | exact Iff.rfl | assumption | exact pureI | exact (show _ = _ by omega) | exact (show _ ≤ _ by omega) | exact (show _ < _ by omega) | exact (show ¬ _ by omega) | refine And.intro ?_ ?_
  · rintro k ⟨hk, hi⟩ R hR
    have hdx : x ∈ S.drop k := by
      rw [← List.take_append_drop k S, List.mem_append] at hn
      rcases hn with h | h
      · exact absurd (hi x h) (Int.lt_irrefl _)
      · exact h
    by_cases hkl : k < S.length
    · by_cases hlt : S[k] < x
      · have hi2 := (all_take (P := fun y => y < x) hkl).2 ⟨hi, hlt⟩
        refine lm ?_; refine tY oky ?_; iterate 2 refine Z ?_
        refine jkm (by omega) ?_; refine gm (by omega) ?_; refine tY oky ?_; refine nw (by omega) (by omega) ?_; rotate_left; refine hR (k + 1) _ _ ?_ ?_; rotate_left; refine weak.mk [] [0] rfl rfl ?_ ?_
        repeat' first | exact trivial | exact rfl | exact Iff.rfl | assumption | exact pureI | exact (show _ = _ by omega) | exact (show _ ≤ _ by omega) | exact (show _ < _ by omega) | exact (show ¬ _ by omega) | refine And.intro ?_ ?_
        rotate_right
        exact ⟨⟨by omega, hi2⟩, by omega⟩
      · have he : S[k] = x := by
          rw [List.drop_eq_getElem_cons hkl] at hdx
          rcases List.mem_cons.1 hdx with h | h
          · exact h.symm
          · rw [← List.take_append_drop (k + 1) S, List.pairwise_append] at hp
            have := hp.2.2 S[k] (by rw [take_snoc hkl]; exact List.mem_append.2 (.inr (List.mem_singleton.2 rfl))) x h
            exact absurd this hlt
        refine lm ?_; refine tY oky ?_; iterate 2 refine Z ?_
        refine jkm (by omega) ?_; refine gmv (by omega) he ?_; refine tN okn ?_; refine lm ?_; refine tY oky ?_; iterate 2 refine Z ?_
        refine jkm (by omega) ?_; refine gmv (by omega) he ?_; refine tY oky ?_; rotate_left; refine doneV.mk [] [0] rfl rfl ?_ ?_ ?_
        repeat' first | exact trivial | exact rfl | exact Iff.rfl | assumption | exact pureI | exact (show _ = _ by omega) | exact (show _ ≤ _ by omega) | exact (show _ < _ by omega) | exact (show ¬ _ by omega) | refine And.intro ?_ ?_
    · rw [List.drop_of_length_le (by omega)] at hdx
      cases hdx
theorem step_c (n : Int) (l r : List Int) (hc : crowd n l) (hr : isRule r) : C 70 [.agg [i64 n, ints l], ints r] [] (.tuple [.agg [i64 (stN n l r), .loc 0], pr (stepOk n l r)]) [row (stL n l r)] false := by
  have hn := hc.1.1
  have hl := hc.1.2
  have hr6 := hr.1
  obtain ⟨X, hX⟩ : ∃ X, ranksL n l = X := ⟨_, rfl⟩
  have hXl : X.length = l.length := by rw [← hX, ranksL_len]
  refine mkC false false Tryz.func70 rfl ?_; refine And.intro nofun ?_; iterate 2 refine Z ?_
  refine callW.mk [] 2 _ _ _ (ranks_c _ _ oka) rfl rfl trivial nofun ?_; iterate 3 refine Z ?_
  refine lm ?_; rotate_left
  rw [hX]
  refine loop_up (β := Nat) (fun k => [(7, .loc 3), (21, i64 k)]) (fun k => [(3, row (tgts n l r k))]) [1] (fun k => k ≤ l.length) (fun k => l.length - k) (0) ?_ ?_ ?_
  · exact Nat.zero_le _
  · refine weak.mk [1] [0, 1, 2, 3] rfl rfl ?_ ?_
    repeat' first | exact trivial | exact rfl | exact Iff.rfl | assumption | exact pureI | exact (show _ = _ by omega) | exact (show _ ≤ _ by omega) | exact (show _ < _ by omega) | exact (show ¬ _ by omega) | refine And.intro ?_ ?_
  · rintro k hk R hR
    by_cases hkl : k < l.length
    · obtain ⟨x, hx⟩ : ∃ x, l[k] = x := ⟨_, rfl⟩
      have hxr : 0 ≤ x ∧ x < n := by rw [← hx]; exact hc.2.1 _ (List.getElem_mem hkl)
      have hwb := wayL_bd n l k
      have hXk := ranksL_in n l (X[k]'(by omega)) (by rw [hX]; exact List.getElem_mem _)
      obtain ⟨q, hq⟩ : ∃ q : Nat, X[k]'(by omega) = (q : Int) := ⟨(X[k]'(by omega)).toNat, by omega⟩
      rw [hq] at hXk
      obtain ⟨u, hu⟩ : ∃ u, r[q]'(by omega) = u := ⟨_, rfl⟩
      have hub : -1 ≤ u ∧ u ≤ 1 := by rw [← hu]; exact hr.2 _ (List.getElem_mem _)
      have ht : tgt n l r k = (x + wayL n l k * u + n) % n := by
        unfold tgt
        rw [hX, elI_get hkl, hx, elI_get (R := X) (by omega), hq, Int.toNat_natCast, elI_get (R := r) (by omega), hu]
      have hwu : -1 ≤ wayL n l k * u ∧ wayL n l k * u ≤ 1 := by
        have h3 : wayL n l k = -1 ∨ wayL n l k = 0 ∨ wayL n l k = 1 := by omega
        rcases h3 with h | h | h <;> rw [h] <;> omega
      have hm : 0 ≤ (x + wayL n l k * u + n) % n ∧ (x + wayL n l k * u + n) % n < n := ⟨Int.emod_nonneg _ (by omega), Int.emod_lt_of_pos _ (by omega)⟩
      refine tY oky ?_; iterate 2 refine Z ?_
      refine jkm (by omega) ?_; refine gmv (by omega) hx ?_; refine callW.mk [] 4 _ _ _ (view_c _ _ oka _ oka) rfl rfl trivial nofun ?_; refine drawP.mkL [0] 18 (Z (Z (Z (Z ?_))))
      apply exP.mk
      exact rfl
      apply exP.mk
      exact rfl
      apply exP.mk
      exact rfl
      apply exP.mk
      exact rfl
      apply exP.mk
      exact rfl
      apply exP.mk
      exact rfl
      apply exP.mk
      iterate 2 refine Z ?_
      refine jkm (by omega) ?_
      exact rfl
      apply exP.mk
      refine gmv (by omega) hq ?_
      exact rfl
      apply exP.mk
      iterate 2 refine Z ?_
      refine jkm (by omega) ?_
      exact rfl
      apply exP.mk
      refine gmv (by omega) hu ?_
      exact rfl
      apply exP.mk
      refine nw (by omega) (by omega) ?_
      exact rfl
      apply exP.mk
      refine nw (by omega) (by omega) ?_
      exact rfl
      apply exP.mk
      refine Z ?_
      exact rfl
      apply exP.mk
      exact rfl
      apply exP.mk
      refine nw (by omega) (by omega) ?_
      exact rfl
      apply exP.mk
      refine Z ?_
      exact rfl
      apply exP.mk
      exact rfl
      apply exP.mk
      refine And.intro (by omega) ?_; refine ntm (by omega) ?_
      exact rfl
      iterate 10 refine Z ?_
      refine leP.mk (by first | (simp [big]; omega) | (simp [big]; done)) ?_; refine ea ?_; refine nw (by omega) (by omega) ?_; rotate_left; refine hR (k + 1) _ _ ?_ ?_; rotate_left; refine weak.mk [] [0, 1, 2, 6] rfl rfl ?_ ?_
      repeat' first | exact trivial | exact rfl | exact Iff.rfl | assumption | exact pureI | exact (show _ = _ by omega) | exact (show _ ≤ _ by omega) | exact (show _ < _ by omega) | exact (show ¬ _ by omega) | refine And.intro ?_ ?_
      rotate_right
      · exact ⟨by omega, by omega⟩
      · rw [tgts_succ, ht]
    · have hke : k = l.length := by omega
      rw [hke]
      obtain ⟨T, hT⟩ : ∃ T, tgts n l r l.length = T := ⟨_, rfl⟩
      have hTl : T.length = l.length := by rw [← hT, tgts_len]
      have hok : stepOk n l r = clr T l l.length := by unfold stepOk; rw [hT]
      rw [hT]
      refine tN okn ?_; refine Z ?_; refine lm ?_; rotate_left; refine loop_up (β := Nat) (fun i => [(56, i64 i), (5, .unk)]) (fun i => []) [] (fun i => i ≤ l.length ∧ clr T l i) (fun i => l.length - i) (0) ?_ ?_ ?_
      · exact ⟨Nat.zero_le _, clr_0 _ _⟩
      · refine weak.mk [] [0, 1, 2, 3] rfl rfl ?_ ?_
        repeat' first | exact trivial | exact rfl | exact Iff.rfl | assumption | exact pureI | exact (show _ = _ by omega) | exact (show _ ≤ _ by omega) | exact (show _ < _ by omega) | exact (show ¬ _ by omega) | refine And.intro ?_ ?_
      · rintro i ⟨hi, hcl⟩ R2 hR2
        by_cases hil : i < l.length
        · obtain ⟨a, ha⟩ : ∃ a, T[i]'(by omega) = a := ⟨_, rfl⟩
          obtain ⟨xi, hxi⟩ : ∃ x, l[i] = x := ⟨_, rfl⟩
          refine tY oky ?_; iterate 2 refine Z ?_
          refine jkm (by omega) ?_; refine gmv (by omega) hxi ?_; rotate_left; refine loop_up (β := Nat) (fun j => [(62, i64 j), (5, .unk)]) (fun j => []) [] (fun j => j ≤ i ∧ ∀ b, b < j → ¬ bad T l i b) (fun j => i - j) (0) ?_ ?_ ?_
          · exact ⟨Nat.zero_le _, fun b hb => absurd hb (Nat.not_lt_zero _)⟩
          · refine weak.mk [] [0, 1, 2, 3] rfl rfl ?_ ?_
            repeat' first | exact trivial | exact rfl | exact Iff.rfl | assumption | exact pureI | exact (show _ = _ by omega) | exact (show _ ≤ _ by omega) | exact (show _ < _ by omega) | exact (show ¬ _ by omega) | refine And.intro ?_ ?_
          · rintro j ⟨hj, hnb⟩ R3 hR3
            by_cases hji : j < i
            · obtain ⟨b, hb⟩ : ∃ b, T[j]'(by omega) = b := ⟨_, rfl⟩
              obtain ⟨xj, hxj⟩ : ∃ x, l[j]'(by omega) = x := ⟨_, rfl⟩
              have hbd : bad T l i j ↔ a = b ∨ (a = xj ∧ b = xi) := by
                unfold bad
                rw [elI_get (R := T) (by omega), elI_get (R := T) (by omega), elI_get (R := l) (by omega), elI_get (R := l) (by omega), ha, hb, hxi, hxj]
              by_cases hB : bad T l i j
              · have hno : ¬ stepOk n l r := fun h => by rw [hok] at h; exact h i j hji hil hB
                have hB2 := hbd.1 hB
                rw [(st_no hno).1, (st_no hno).2]
                by_cases b1 : a = b
                · refine tY oky ?_
                  refine drawP.mk 29 (Z (Z (Z (Z ?_))))
                  apply exP.mk
                  exact rfl
                  apply exP.mk
                  exact rfl
                  apply exP.mk
                  iterate 2 refine Z ?_
                  refine jkm (by omega) ?_
                  exact rfl
                  apply exP.mk
                  refine gmv (by omega) ha ?_
                  exact rfl
                  apply exP.mk
                  exact rfl
                  apply exP.mk
                  exact rfl
                  apply exP.mk
                  iterate 2 refine Z ?_
                  refine jkm (by omega) ?_
                  exact rfl
                  apply exP.mk
                  refine gmv (by omega) hb ?_
                  exact rfl
                  apply exP.mk
                  exact rfl
                  apply exP.mk
                  exact rfl
                  refine tY oky ?_; iterate 5 refine Z ?_
                  rotate_left; refine doneV.mk [1] [4] rfl rfl ?_ ?_ ?_
                  repeat' first | exact trivial | exact rfl | exact Iff.rfl | assumption | exact pureI | exact (show _ = _ by omega) | exact (show _ ≤ _ by omega) | exact (show _ < _ by omega) | exact (show ¬ _ by omega) | refine And.intro ?_ ?_
                  all_goals exact hno
                · have b2 : a = xj := by omega
                  have b3 : b = xi := by omega
                  refine tY oky ?_; refine drawP.mk 29 (Z (Z (Z (Z ?_))))
                  apply exP.mk
                  exact rfl
                  apply exP.mk
                  exact rfl
                  apply exP.mk
                  iterate 2 refine Z ?_
                  refine jkm (by omega) ?_
                  exact rfl
                  apply exP.mk
                  refine gmv (by omega) ha ?_
                  exact rfl
                  apply exP.mk
                  exact rfl
                  apply exP.mk
                  exact rfl
                  apply exP.mk
                  iterate 2 refine Z ?_
                  refine jkm (by omega) ?_
                  exact rfl
                  apply exP.mk
                  refine gmv (by omega) hb ?_
                  exact rfl
                  apply exP.mk
                  exact rfl
                  apply exP.mk
                  exact rfl
                  refine tN okn ?_
                  apply exP.mk
                  exact rfl
                  apply exP.mk
                  exact rfl
                  apply exP.mk
                  iterate 2 refine Z ?_
                  refine jkm (by omega) ?_
                  exact rfl
                  apply exP.mk
                  refine gmv (by omega) ha ?_
                  exact rfl
                  apply exP.mk
                  refine Z ?_
                  exact rfl
                  apply exP.mk
                  exact rfl
                  apply exP.mk
                  exact rfl
                  apply exP.mk
                  iterate 2 refine Z ?_
                  refine jkm (by omega) ?_
                  exact rfl
                  apply exP.mk
                  refine gmv (by omega) hxj ?_
                  exact rfl
                  apply exP.mk
                  exact rfl
                  apply exP.mk
                  exact rfl
                  refine tY oky ?_
                  apply exP.mk
                  exact rfl
                  apply exP.mk
                  exact rfl
                  apply exP.mk
                  iterate 2 refine Z ?_
                  refine jkm (by omega) ?_
                  exact rfl
                  apply exP.mk
                  refine gmv (by omega) hb ?_
                  exact rfl
                  apply exP.mk
                  exact rfl
                  apply exP.mk
                  exact rfl
                  refine tY oky ?_; iterate 5 refine Z ?_
                  rotate_left; refine doneV.mk [1] [4] rfl rfl ?_ ?_ ?_
                  repeat' first | exact trivial | exact rfl | exact Iff.rfl | assumption | exact pureI | exact (show _ = _ by omega) | exact (show _ ≤ _ by omega) | exact (show _ < _ by omega) | exact (show ¬ _ by omega) | refine And.intro ?_ ?_
                  all_goals exact hno
              · have hnx := bad_next hnb hB
                have hB2 := fun h => hB (hbd.2 h)
                have b1 : ¬ a = b := fun h => hB2 (.inl h)
                by_cases b2 : a = xj
                · have b3 : ¬ b = xi := fun h => hB2 (.inr ⟨b2, h⟩)
                  refine tY oky ?_; refine drawP.mk 29 (Z (Z (Z (Z ?_))))
                  apply exP.mk
                  exact rfl
                  apply exP.mk
                  exact rfl
                  apply exP.mk
                  iterate 2 refine Z ?_
                  refine jkm (by omega) ?_
                  exact rfl
                  apply exP.mk
                  refine gmv (by omega) ha ?_
                  exact rfl
                  apply exP.mk
                  exact rfl
                  apply exP.mk
                  exact rfl
                  apply exP.mk
                  iterate 2 refine Z ?_
                  refine jkm (by omega) ?_
                  exact rfl
                  apply exP.mk
                  refine gmv (by omega) hb ?_
                  exact rfl
                  apply exP.mk
                  exact rfl
                  apply exP.mk
                  exact rfl
                  refine tN okn ?_
                  apply exP.mk
                  exact rfl
                  apply exP.mk
                  exact rfl
                  apply exP.mk
                  iterate 2 refine Z ?_
                  refine jkm (by omega) ?_
                  exact rfl
                  apply exP.mk
                  refine gmv (by omega) ha ?_
                  exact rfl
                  apply exP.mk
                  refine Z ?_
                  exact rfl
                  apply exP.mk
                  exact rfl
                  apply exP.mk
                  exact rfl
                  apply exP.mk
                  iterate 2 refine Z ?_
                  refine jkm (by omega) ?_
                  exact rfl
                  apply exP.mk
                  refine gmv (by omega) hxj ?_
                  exact rfl
                  apply exP.mk
                  exact rfl
                  apply exP.mk
                  exact rfl
                  refine tY oky ?_
                  apply exP.mk
                  exact rfl
                  apply exP.mk
                  exact rfl
                  apply exP.mk
                  iterate 2 refine Z ?_
                  refine jkm (by omega) ?_
                  exact rfl
                  apply exP.mk
                  refine gmv (by omega) hb ?_
                  exact rfl
                  apply exP.mk
                  exact rfl
                  apply exP.mk
                  exact rfl
                  refine tN okn ?_; refine nw (by omega) (by omega) ?_; rotate_left; refine hR3 (j + 1) _ _ ?_ ?_; rotate_left; refine weak.mk [] [0, 1, 2, 3] rfl rfl ?_ ?_
                  repeat' first | exact trivial | exact rfl | exact Iff.rfl | assumption | exact pureI | exact (show _ = _ by omega) | exact (show _ ≤ _ by omega) | exact (show _ < _ by omega) | exact (show ¬ _ by omega) | refine And.intro ?_ ?_
                  rotate_right
                  exact ⟨⟨by omega, hnx⟩, by omega⟩
                · refine tY oky ?_
                  refine drawP.mk 29 (Z (Z (Z (Z ?_))))
                  apply exP.mk
                  exact rfl
                  apply exP.mk
                  exact rfl
                  apply exP.mk
                  iterate 2 refine Z ?_
                  refine jkm (by omega) ?_
                  exact rfl
                  apply exP.mk
                  refine gmv (by omega) ha ?_
                  exact rfl
                  apply exP.mk
                  exact rfl
                  apply exP.mk
                  exact rfl
                  apply exP.mk
                  iterate 2 refine Z ?_
                  refine jkm (by omega) ?_
                  exact rfl
                  apply exP.mk
                  refine gmv (by omega) hb ?_
                  exact rfl
                  apply exP.mk
                  exact rfl
                  apply exP.mk
                  exact rfl
                  refine tN okn ?_
                  apply exP.mk
                  exact rfl
                  apply exP.mk
                  exact rfl
                  apply exP.mk
                  iterate 2 refine Z ?_
                  refine jkm (by omega) ?_
                  exact rfl
                  apply exP.mk
                  refine gmv (by omega) ha ?_
                  exact rfl
                  apply exP.mk
                  refine Z ?_
                  exact rfl
                  apply exP.mk
                  exact rfl
                  apply exP.mk
                  exact rfl
                  apply exP.mk
                  iterate 2 refine Z ?_
                  refine jkm (by omega) ?_
                  exact rfl
                  apply exP.mk
                  refine gmv (by omega) hxj ?_
                  exact rfl
                  apply exP.mk
                  exact rfl
                  apply exP.mk
                  exact rfl
                  refine tN okn ?_; refine nw (by omega) (by omega) ?_; rotate_left; refine hR3 (j + 1) _ _ ?_ ?_; rotate_left; refine weak.mk [] [0, 1, 2, 3] rfl rfl ?_ ?_
                  repeat' first | exact trivial | exact rfl | exact Iff.rfl | assumption | exact pureI | exact (show _ = _ by omega) | exact (show _ ≤ _ by omega) | exact (show _ < _ by omega) | exact (show ¬ _ by omega) | refine And.intro ?_ ?_
                  rotate_right
                  exact ⟨⟨by omega, hnx⟩, by omega⟩
            · have hij : j = i := by omega
              have hcn := clr_next hcl (fun b hb => hnb b (by omega))
              refine tN okn ?_; refine nw (by omega) (by omega) ?_; rotate_left; refine hR2 (i + 1) _ _ ?_ ?_; rotate_left; refine weak.mk [] [0, 1, 2, 3] rfl rfl ?_ ?_
              repeat' first | exact trivial | exact rfl | exact Iff.rfl | assumption | exact pureI | exact (show _ = _ by omega) | exact (show _ ≤ _ by omega) | exact (show _ < _ by omega) | exact (show ¬ _ by omega) | refine And.intro ?_ ?_
              rotate_right
              exact ⟨⟨by omega, hcn⟩, by omega⟩
        · have hie : i = l.length := by omega
          have hyes : stepOk n l r := by rw [hok, ← hie]; exact hcl
          have hin := tgts_in hn.1 l r l.length
          have hnd := step_nodup hyes
          rw [hT] at hin hnd
          rw [(st_yes hyes).1, (st_yes hyes).2, hT]
          refine tN okn ?_; refine callW.mkE [] [3] 4 _ _ _ _ (Sort_c _ (by first | omega | assumption | (simp; omega) | (simp; done) | exact trivial | exact hin _ (List.getElem_mem _))) rfl rfl trivial nofun (fun _ _ => ?_); iterate 12 refine Z ?_
          rotate_left
          rename_i M hM
          rw [srt_of hM.1 (sortU_pw hM.2) hnd hin]
          refine doneV.mk [] [3] rfl rfl ?_ ?_ ?_
          repeat' first | exact trivial | exact rfl | exact Iff.rfl | assumption | exact pureI | exact (show _ = _ by omega) | exact (show _ ≤ _ by omega) | exact (show _ < _ by omega) | exact (show ¬ _ by omega) | refine And.intro ?_ ?_
          all_goals exact hyes
theorem l10Step_c (n : Int) (l r : List Int) (hc : crowd n l) (hr : isRule r) : C 72 [.agg [i64 n, ints l], ints r] [] (.tuple [.agg [i64 (stN n l r), .loc 0], pr (stepOk n l r)]) [row (stL n l r)] false := by
  have hn := hc.1.1
  have hl := hc.1.2
  have hr6 := hr.1
  obtain ⟨X, hX⟩ : ∃ X, ranksL n l = X := ⟨_, rfl⟩
  have hXl : X.length = l.length := by rw [← hX, ranksL_len]
  refine mkC false false Tryz.func72 rfl ?_; refine And.intro nofun ?_; iterate 2 refine Z ?_
  refine callW.mk [] 2 _ _ _ (l10Ranks_c _ _ oka) rfl rfl trivial nofun ?_; iterate 17 refine Z ?_
  rotate_left
  rw [hX]
  refine loop_up (β := Nat) (fun k => [(7, .loc 4), (9, i64 k)]) (fun k => [(3, .row .var 2 [.agg [i64 n, .loc 5]]), (4, row (tgts n l r k)), (5, row (putT n l r k))]) [1, 1] (fun k => k ≤ l.length) (fun k => l.length - k) (0) ?_ ?_ ?_
  · exact Nat.zero_le _
  · refine weak.mk [1, 1] [0, 1, 2, 3, 4, 5] rfl rfl ?_ ?_
    repeat' first | exact trivial | exact rfl | exact Iff.rfl | assumption | exact pureI | exact (show _ = _ by omega) | exact (show _ ≤ _ by omega) | exact (show _ < _ by omega) | exact (show ¬ _ by omega) | refine And.intro ?_ ?_
  · rintro k hk R hR
    by_cases hkl : k < l.length
    · obtain ⟨x, hx⟩ : ∃ x, l[k] = x := ⟨_, rfl⟩
      have hxr : 0 ≤ x ∧ x < n := by rw [← hx]; exact hc.2.1 _ (List.getElem_mem hkl)
      have hwb := wayL_bd n l k
      have hXk := ranksL_in n l (X[k]'(by omega)) (by rw [hX]; exact List.getElem_mem _)
      obtain ⟨q, hq⟩ : ∃ q : Nat, X[k]'(by omega) = (q : Int) := ⟨(X[k]'(by omega)).toNat, by omega⟩
      rw [hq] at hXk
      obtain ⟨u, hu⟩ : ∃ u, r[q]'(by omega) = u := ⟨_, rfl⟩
      have hub : -1 ≤ u ∧ u ≤ 1 := by rw [← hu]; exact hr.2 _ (List.getElem_mem _)
      have ht : tgt n l r k = (x + wayL n l k * u + n) % n := by
        unfold tgt
        rw [hX, elI_get hkl, hx, elI_get (R := X) (by omega), hq, Int.toNat_natCast, elI_get (R := r) (by omega), hu]
      have hwu : -1 ≤ wayL n l k * u ∧ wayL n l k * u ≤ 1 := by
        have h3 : wayL n l k = -1 ∨ wayL n l k = 0 ∨ wayL n l k = 1 := by omega
        rcases h3 with h | h | h <;> rw [h] <;> omega
      have hm : 0 ≤ (x + wayL n l k * u + n) % n ∧ (x + wayL n l k * u + n) % n < n := ⟨Int.emod_nonneg _ (by omega), Int.emod_lt_of_pos _ (by omega)⟩
      have hle := srt_le n (tgts n l r k)
      have hTl : (tgts n l r k ++ [(x + wayL n l k * u + n) % n]).length = k + 1 := by simp
      have hel : (tgts n l r k ++ [(x + wayL n l k * u + n) % n])[k]'(by omega) = (x + wayL n l k * u + n) % n := by simp
      rw [putT_eq]
      by_cases ho : (x + wayL n l k * u + n) % n ∈ srt n (tgts n l r k)
      · have hqq := putOld_c n (tgts n l r k) ((x + wayL n l k * u + n) % n) (by omega) ho
        have hpq : putT n l r (k + 1) = srt n (tgts n l r k) := by rw [putT_eq, tgts_succ, ht, srt_old ho]
        refine Z ?_; refine lm ?_; refine tY oky ?_; refine callW.mk [] 6 _ _ _ (l10View_c _ _ oka _ oka) rfl rfl trivial nofun ?_; refine drawP.mkL [0] 22 (Z (Z (Z (Z ?_))))
        apply exP.mk
        exact rfl
        apply exP.mk
        refine Z ?_
        exact rfl
        apply exP.mk
        exact rfl
        apply exP.mk
        exact rfl
        apply exP.mk
        iterate 2 refine Z ?_
        refine jkm (by omega) ?_
        exact rfl
        apply exP.mk
        refine gmv (by omega) hx ?_
        exact rfl
        apply exP.mk
        exact rfl
        apply exP.mk
        exact rfl
        apply exP.mk
        exact rfl
        apply exP.mk
        exact rfl
        apply exP.mk
        iterate 2 refine Z ?_
        refine jkm (by omega) ?_
        exact rfl
        apply exP.mk
        refine gmv (by omega) hq ?_
        exact rfl
        apply exP.mk
        iterate 2 refine Z ?_
        refine jkm (by omega) ?_
        exact rfl
        apply exP.mk
        refine gmv (by omega) hu ?_
        exact rfl
        apply exP.mk
        refine nw (by omega) (by omega) ?_
        exact rfl
        apply exP.mk
        refine nw (by omega) (by omega) ?_
        exact rfl
        apply exP.mk
        refine Z ?_
        exact rfl
        apply exP.mk
        exact rfl
        apply exP.mk
        refine nw (by omega) (by omega) ?_
        exact rfl
        apply exP.mk
        refine Z ?_
        exact rfl
        apply exP.mk
        exact rfl
        apply exP.mk
        refine And.intro (by omega) ?_; refine ntm (by omega) ?_
        exact rfl
        iterate 10 refine Z ?_
        refine leP.mk (by first | (simp [big]; omega) | (simp [big]; done)) ?_; refine ea ?_; refine drawP.mkS (Z (Z ?_)); refine Z ?_
        apply exP.mk
        refine Z ?_
        exact rfl
        apply exP.mk
        exact rfl
        apply exP.mk
        exact rfl
        apply exP.mk
        exact rfl
        apply exP.mk
        iterate 2 refine Z ?_
        refine jkm (by omega) ?_
        exact rfl
        apply exP.mk
        refine gmv (by omega) hel ?_
        exact rfl
        refine callW.mk [5] 9 _ _ _ (hqq) rfl rfl okk nofun ?_; refine Z ?_
        apply exP.mk
        refine Z ?_
        exact rfl
        iterate 5 refine Z ?_
        refine nw (by omega) (by omega) ?_; rotate_left; refine hR (k + 1) _ _ ?_ ?_; rotate_left; refine weak.mk [] [0, 1, 2, 3, 8, 5] rfl rfl ?_ ?_
        repeat' first | exact trivial | exact rfl | exact Iff.rfl | assumption | exact pureI | exact (show _ = _ by omega) | exact (show _ ≤ _ by omega) | exact (show _ < _ by omega) | exact (show ¬ _ by omega) | refine And.intro ?_ ?_
        rotate_right
        · exact ⟨by omega, by omega⟩
        · rw [tgts_succ, ht]
        · rw [hpq]
      · have hqq := putNew_c n (tgts n l r k) ((x + wayL n l k * u + n) % n) hm (by omega) ho
        have hpq : putT n l r (k + 1) = srt n (tgts n l r k ++ [(x + wayL n l k * u + n) % n]) := by rw [putT_eq, tgts_succ, ht]
        refine Z ?_; refine lm ?_; refine tY oky ?_; refine callW.mk [] 6 _ _ _ (l10View_c _ _ oka _ oka) rfl rfl trivial nofun ?_; refine drawP.mkL [0] 22 (Z (Z (Z (Z ?_))))
        apply exP.mk
        exact rfl
        apply exP.mk
        refine Z ?_
        exact rfl
        apply exP.mk
        exact rfl
        apply exP.mk
        exact rfl
        apply exP.mk
        iterate 2 refine Z ?_
        refine jkm (by omega) ?_
        exact rfl
        apply exP.mk
        refine gmv (by omega) hx ?_
        exact rfl
        apply exP.mk
        exact rfl
        apply exP.mk
        exact rfl
        apply exP.mk
        exact rfl
        apply exP.mk
        exact rfl
        apply exP.mk
        iterate 2 refine Z ?_
        refine jkm (by omega) ?_
        exact rfl
        apply exP.mk
        refine gmv (by omega) hq ?_
        exact rfl
        apply exP.mk
        iterate 2 refine Z ?_
        refine jkm (by omega) ?_
        exact rfl
        apply exP.mk
        refine gmv (by omega) hu ?_
        exact rfl
        apply exP.mk
        refine nw (by omega) (by omega) ?_
        exact rfl
        apply exP.mk
        refine nw (by omega) (by omega) ?_
        exact rfl
        apply exP.mk
        refine Z ?_
        exact rfl
        apply exP.mk
        exact rfl
        apply exP.mk
        refine nw (by omega) (by omega) ?_
        exact rfl
        apply exP.mk
        refine Z ?_
        exact rfl
        apply exP.mk
        exact rfl
        apply exP.mk
        refine And.intro (by omega) ?_; refine ntm (by omega) ?_
        exact rfl
        iterate 10 refine Z ?_
        refine leP.mk (by first | (simp [big]; omega) | (simp [big]; done)) ?_; refine ea ?_; refine drawP.mkS (Z (Z ?_)); refine Z ?_
        apply exP.mk
        refine Z ?_
        exact rfl
        apply exP.mk
        exact rfl
        apply exP.mk
        exact rfl
        apply exP.mk
        exact rfl
        apply exP.mk
        iterate 2 refine Z ?_
        refine jkm (by omega) ?_
        exact rfl
        apply exP.mk
        refine gmv (by omega) hel ?_
        exact rfl
        refine callW.mk [] 9 _ _ _ (hqq) rfl rfl okk nofun ?_; refine Z ?_
        apply exP.mk
        refine Z ?_
        exact rfl
        iterate 5 refine Z ?_
        refine nw (by omega) (by omega) ?_; rotate_left; refine hR (k + 1) _ _ ?_ ?_; rotate_left; refine weak.mk [] [0, 1, 2, 3, 8, 9] rfl rfl ?_ ?_
        repeat' first | exact trivial | exact rfl | exact Iff.rfl | assumption | exact pureI | exact (show _ = _ by omega) | exact (show _ ≤ _ by omega) | exact (show _ < _ by omega) | exact (show ¬ _ by omega) | refine And.intro ?_ ?_
        rotate_right
        · exact ⟨by omega, by omega⟩
        · rw [tgts_succ, ht]
        · rw [hpq]
    · have hke : k = l.length := by omega
      rw [hke]
      obtain ⟨T, hT⟩ : ∃ T, tgts n l r l.length = T := ⟨_, rfl⟩
      have hTl : T.length = l.length := by rw [← hT, tgts_len]
      have hok : stepOk n l r = clr T l l.length := by unfold stepOk; rw [hT]
      rw [putT_eq]
      rw [hT]
      refine Z ?_; refine lm ?_; refine tN okn ?_; rotate_left; refine loop_up (β := Nat) (fun i => [(12, i64 i), (5, .unk)]) (fun i => []) [] (fun i => i ≤ l.length ∧ clr T l i) (fun i => l.length - i) (0) ?_ ?_ ?_
      · exact ⟨Nat.zero_le _, clr_0 _ _⟩
      · refine weak.mk [] [0, 1, 2, 3, 4, 5] rfl rfl ?_ ?_
        repeat' first | exact trivial | exact rfl | exact Iff.rfl | assumption | exact pureI | exact (show _ = _ by omega) | exact (show _ ≤ _ by omega) | exact (show _ < _ by omega) | exact (show ¬ _ by omega) | refine And.intro ?_ ?_
      · rintro i ⟨hi, hcl⟩ R2 hR2
        by_cases hil : i < l.length
        · obtain ⟨a, ha⟩ : ∃ a, T[i]'(by omega) = a := ⟨_, rfl⟩
          obtain ⟨xi, hxi⟩ : ∃ x, l[i] = x := ⟨_, rfl⟩
          refine lm ?_; refine tY oky ?_; rotate_left; refine loop_up (β := Nat) (fun j => [(13, i64 j), (5, .unk)]) (fun j => []) [] (fun j => j ≤ i ∧ ∀ b, b < j → ¬ bad T l i b) (fun j => i - j) (0) ?_ ?_ ?_
          · exact ⟨Nat.zero_le _, fun b hb => absurd hb (Nat.not_lt_zero _)⟩
          · refine weak.mk [] [0, 1, 2, 3, 4, 5] rfl rfl ?_ ?_
            repeat' first | exact trivial | exact rfl | exact Iff.rfl | assumption | exact pureI | exact (show _ = _ by omega) | exact (show _ ≤ _ by omega) | exact (show _ < _ by omega) | exact (show ¬ _ by omega) | refine And.intro ?_ ?_
          · rintro j ⟨hj, hnb⟩ R3 hR3
            by_cases hji : j < i
            · obtain ⟨b, hb⟩ : ∃ b, T[j]'(by omega) = b := ⟨_, rfl⟩
              obtain ⟨xj, hxj⟩ : ∃ x, l[j]'(by omega) = x := ⟨_, rfl⟩
              have hbd : bad T l i j ↔ a = b ∨ (a = xj ∧ b = xi) := by
                unfold bad
                rw [elI_get (R := T) (by omega), elI_get (R := T) (by omega), elI_get (R := l) (by omega), elI_get (R := l) (by omega), ha, hb, hxi, hxj]
              by_cases hB : bad T l i j
              · have hno : ¬ stepOk n l r := fun h => by rw [hok] at h; exact h i j hji hil hB
                have hB2 := hbd.1 hB
                rw [(st_no hno).1, (st_no hno).2]
                by_cases b1 : a = b
                · refine tY oky ?_
                  refine drawP.mk 33 (Z (Z (Z (Z ?_))))
                  apply exP.mk
                  exact rfl
                  apply exP.mk
                  exact rfl
                  apply exP.mk
                  iterate 2 refine Z ?_
                  refine jkm (by omega) ?_
                  exact rfl
                  apply exP.mk
                  refine gmv (by omega) ha ?_
                  exact rfl
                  apply exP.mk
                  exact rfl
                  apply exP.mk
                  exact rfl
                  apply exP.mk
                  iterate 2 refine Z ?_
                  refine jkm (by omega) ?_
                  exact rfl
                  apply exP.mk
                  refine gmv (by omega) hb ?_
                  exact rfl
                  apply exP.mk
                  exact rfl
                  apply exP.mk
                  exact rfl
                  refine tY oky ?_; iterate 5 refine Z ?_
                  rotate_left; refine doneV.mk [1] [6] rfl rfl ?_ ?_ ?_
                  repeat' first | exact trivial | exact rfl | exact Iff.rfl | assumption | exact pureI | exact (show _ = _ by omega) | exact (show _ ≤ _ by omega) | exact (show _ < _ by omega) | exact (show ¬ _ by omega) | refine And.intro ?_ ?_
                  all_goals exact hno
                · have b2 : a = xj := by omega
                  have b3 : b = xi := by omega
                  refine tY oky ?_; refine drawP.mk 33 (Z (Z (Z (Z ?_))))
                  apply exP.mk
                  exact rfl
                  apply exP.mk
                  exact rfl
                  apply exP.mk
                  iterate 2 refine Z ?_
                  refine jkm (by omega) ?_
                  exact rfl
                  apply exP.mk
                  refine gmv (by omega) ha ?_
                  exact rfl
                  apply exP.mk
                  exact rfl
                  apply exP.mk
                  exact rfl
                  apply exP.mk
                  iterate 2 refine Z ?_
                  refine jkm (by omega) ?_
                  exact rfl
                  apply exP.mk
                  refine gmv (by omega) hb ?_
                  exact rfl
                  apply exP.mk
                  exact rfl
                  apply exP.mk
                  exact rfl
                  refine tN okn ?_
                  apply exP.mk
                  exact rfl
                  apply exP.mk
                  exact rfl
                  apply exP.mk
                  iterate 2 refine Z ?_
                  refine jkm (by omega) ?_
                  exact rfl
                  apply exP.mk
                  refine gmv (by omega) ha ?_
                  exact rfl
                  apply exP.mk
                  refine Z ?_
                  exact rfl
                  apply exP.mk
                  exact rfl
                  apply exP.mk
                  exact rfl
                  apply exP.mk
                  iterate 2 refine Z ?_
                  refine jkm (by omega) ?_
                  exact rfl
                  apply exP.mk
                  refine gmv (by omega) hxj ?_
                  exact rfl
                  apply exP.mk
                  exact rfl
                  apply exP.mk
                  exact rfl
                  refine tY oky ?_
                  apply exP.mk
                  exact rfl
                  apply exP.mk
                  exact rfl
                  apply exP.mk
                  iterate 2 refine Z ?_
                  refine jkm (by omega) ?_
                  exact rfl
                  apply exP.mk
                  refine gmv (by omega) hb ?_
                  exact rfl
                  apply exP.mk
                  refine Z ?_
                  exact rfl
                  apply exP.mk
                  exact rfl
                  apply exP.mk
                  exact rfl
                  apply exP.mk
                  iterate 2 refine Z ?_
                  refine jkm (by omega) ?_
                  exact rfl
                  apply exP.mk
                  refine gmv (by omega) hxi ?_
                  exact rfl
                  apply exP.mk
                  exact rfl
                  refine tY oky ?_; iterate 5 refine Z ?_
                  rotate_left; refine doneV.mk [1] [6] rfl rfl ?_ ?_ ?_
                  repeat' first | exact trivial | exact rfl | exact Iff.rfl | assumption | exact pureI | exact (show _ = _ by omega) | exact (show _ ≤ _ by omega) | exact (show _ < _ by omega) | exact (show ¬ _ by omega) | refine And.intro ?_ ?_
                  all_goals exact hno
              · have hnx := bad_next hnb hB
                have hB2 := fun h => hB (hbd.2 h)
                have b1 : ¬ a = b := fun h => hB2 (.inl h)
                by_cases b2 : a = xj
                · have b3 : ¬ b = xi := fun h => hB2 (.inr ⟨b2, h⟩)
                  refine tY oky ?_; refine drawP.mk 33 (Z (Z (Z (Z ?_))))
                  apply exP.mk
                  exact rfl
                  apply exP.mk
                  exact rfl
                  apply exP.mk
                  iterate 2 refine Z ?_
                  refine jkm (by omega) ?_
                  exact rfl
                  apply exP.mk
                  refine gmv (by omega) ha ?_
                  exact rfl
                  apply exP.mk
                  exact rfl
                  apply exP.mk
                  exact rfl
                  apply exP.mk
                  iterate 2 refine Z ?_
                  refine jkm (by omega) ?_
                  exact rfl
                  apply exP.mk
                  refine gmv (by omega) hb ?_
                  exact rfl
                  apply exP.mk
                  exact rfl
                  apply exP.mk
                  exact rfl
                  refine tN okn ?_
                  apply exP.mk
                  exact rfl
                  apply exP.mk
                  exact rfl
                  apply exP.mk
                  iterate 2 refine Z ?_
                  refine jkm (by omega) ?_
                  exact rfl
                  apply exP.mk
                  refine gmv (by omega) ha ?_
                  exact rfl
                  apply exP.mk
                  refine Z ?_
                  exact rfl
                  apply exP.mk
                  exact rfl
                  apply exP.mk
                  exact rfl
                  apply exP.mk
                  iterate 2 refine Z ?_
                  refine jkm (by omega) ?_
                  exact rfl
                  apply exP.mk
                  refine gmv (by omega) hxj ?_
                  exact rfl
                  apply exP.mk
                  exact rfl
                  apply exP.mk
                  exact rfl
                  refine tY oky ?_
                  apply exP.mk
                  exact rfl
                  apply exP.mk
                  exact rfl
                  apply exP.mk
                  iterate 2 refine Z ?_
                  refine jkm (by omega) ?_
                  exact rfl
                  apply exP.mk
                  refine gmv (by omega) hb ?_
                  exact rfl
                  apply exP.mk
                  refine Z ?_
                  exact rfl
                  apply exP.mk
                  exact rfl
                  apply exP.mk
                  exact rfl
                  apply exP.mk
                  iterate 2 refine Z ?_
                  refine jkm (by omega) ?_
                  exact rfl
                  apply exP.mk
                  refine gmv (by omega) hxi ?_
                  exact rfl
                  apply exP.mk
                  exact rfl
                  refine tN okn ?_; refine nw (by omega) (by omega) ?_; rotate_left; refine hR3 (j + 1) _ _ ?_ ?_; rotate_left; refine weak.mk [] [0, 1, 2, 3, 4, 5] rfl rfl ?_ ?_
                  repeat' first | exact trivial | exact rfl | exact Iff.rfl | assumption | exact pureI | exact (show _ = _ by omega) | exact (show _ ≤ _ by omega) | exact (show _ < _ by omega) | exact (show ¬ _ by omega) | refine And.intro ?_ ?_
                  rotate_right
                  exact ⟨⟨by omega, hnx⟩, by omega⟩
                · refine tY oky ?_
                  refine drawP.mk 33 (Z (Z (Z (Z ?_))))
                  apply exP.mk
                  exact rfl
                  apply exP.mk
                  exact rfl
                  apply exP.mk
                  iterate 2 refine Z ?_
                  refine jkm (by omega) ?_
                  exact rfl
                  apply exP.mk
                  refine gmv (by omega) ha ?_
                  exact rfl
                  apply exP.mk
                  exact rfl
                  apply exP.mk
                  exact rfl
                  apply exP.mk
                  iterate 2 refine Z ?_
                  refine jkm (by omega) ?_
                  exact rfl
                  apply exP.mk
                  refine gmv (by omega) hb ?_
                  exact rfl
                  apply exP.mk
                  exact rfl
                  apply exP.mk
                  exact rfl
                  refine tN okn ?_
                  apply exP.mk
                  exact rfl
                  apply exP.mk
                  exact rfl
                  apply exP.mk
                  iterate 2 refine Z ?_
                  refine jkm (by omega) ?_
                  exact rfl
                  apply exP.mk
                  refine gmv (by omega) ha ?_
                  exact rfl
                  apply exP.mk
                  refine Z ?_
                  exact rfl
                  apply exP.mk
                  exact rfl
                  apply exP.mk
                  exact rfl
                  apply exP.mk
                  iterate 2 refine Z ?_
                  refine jkm (by omega) ?_
                  exact rfl
                  apply exP.mk
                  refine gmv (by omega) hxj ?_
                  exact rfl
                  apply exP.mk
                  exact rfl
                  apply exP.mk
                  exact rfl
                  refine tN okn ?_; refine nw (by omega) (by omega) ?_; rotate_left; refine hR3 (j + 1) _ _ ?_ ?_; rotate_left; refine weak.mk [] [0, 1, 2, 3, 4, 5] rfl rfl ?_ ?_
                  repeat' first | exact trivial | exact rfl | exact Iff.rfl | assumption | exact pureI | exact (show _ = _ by omega) | exact (show _ ≤ _ by omega) | exact (show _ < _ by omega) | exact (show ¬ _ by omega) | refine And.intro ?_ ?_
                  rotate_right
                  exact ⟨⟨by omega, hnx⟩, by omega⟩
            · have hij : j = i := by omega
              have hcn := clr_next hcl (fun b hb => hnb b (by omega))
              refine tN okn ?_; refine nw (by omega) (by omega) ?_; rotate_left; refine hR2 (i + 1) _ _ ?_ ?_; rotate_left; refine weak.mk [] [0, 1, 2, 3, 4, 5] rfl rfl ?_ ?_
              repeat' first | exact trivial | exact rfl | exact Iff.rfl | assumption | exact pureI | exact (show _ = _ by omega) | exact (show _ ≤ _ by omega) | exact (show _ < _ by omega) | exact (show ¬ _ by omega) | refine And.intro ?_ ?_
              rotate_right
              exact ⟨⟨by omega, hcn⟩, by omega⟩
        · have hie : i = l.length := by omega
          have hyes : stepOk n l r := by rw [hok, ← hie]; exact hcl
          rw [(st_yes hyes).1, (st_yes hyes).2, hT]
          refine lm ?_; refine tN okn ?_; iterate 4 refine Z ?_
          rotate_left; refine doneV.mk [] [5] rfl rfl ?_ ?_ ?_
          repeat' first | exact trivial | exact rfl | exact Iff.rfl | assumption | exact pureI | exact (show _ = _ by omega) | exact (show _ ≤ _ by omega) | exact (show _ < _ by omega) | exact (show ¬ _ by omega) | refine And.intro ?_ ?_
          all_goals exact hyes
end Sx
