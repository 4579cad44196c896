/- Contracts: crowds. -/
import Derived.Test.YteaabofmnlbmkaaSyC
import Derived.Test.YteaabofmnlbmkaaCRa
set_option linter.all false
namespace Sx
open Go Go.Proofs
set_option maxRecDepth 100000
set_option maxHeartbeats 8000000
set_option linter.unusedSimpArgs false
set_option linter.unusedSectionVars false
variable [Glb]
theorem IsCrowd_c (n : Int) (l : List Int) (hl : l.length ≤ 1099511627776) : C 53 [.agg [i64 n, ints l]] [] (pr (crowd n l)) [] false := by
  refine mkC false false Try.func53 rfl ?_; refine And.intro nofun ?_; iterate 2 refine Z ?_
  refine lm ?_; rotate_left
  by_cases hn : 3 ≤ n ∧ n ≤ 12
  · refine loop_up (β := Nat) (fun k => [(8, i64 k), (2, .unk)]) (fun k => []) [] (fun k => k ≤ l.length ∧ inR n (l.take k) ∧ rise l k) (fun k => l.length - k) (0) ?_ ?_ ?_
    · exact ⟨Nat.zero_le _, fun x hx => by simp at hx, fun i hi => by omega⟩
    · refine weak.mk [] [0] rfl rfl ?_ ?_
      repeat' first | exact trivial | exact rfl | exact Iff.rfl | assumption | exact pureI | exact (show _ = _ by omega) | exact (show _ ≤ _ by omega) | exact (show _ < _ by omega) | exact (show ¬ _ by omega) | refine And.intro ?_ ?_
    · rintro k ⟨hk, hi, hr⟩ R hR
      by_cases hkl : k < l.length
      · by_cases hp : 0 ≤ l[k] ∧ l[k] ≤ n - 1
        · have hin : inR n (l.take (k + 1)) := by
            intro x hx
            rw [take_snoc hkl] at hx
            rcases List.mem_append.1 hx with hx | hx
            · exact hi x hx
            · rw [List.mem_singleton.1 hx]; omega
          by_cases hk0 : 0 < k
          · by_cases hlt : l[k - 1] < l[k]
            · refine tY oky ?_
              iterate 2 refine Z ?_
              refine jkm (by omega) ?_; refine gm (by omega) ?_; refine Z ?_; refine nw (by omega) (by omega) ?_; refine callW.mk [] 1 _ _ _ (within_c _ _ _) rfl rfl trivial nofun ?_; refine tN okn ?_; refine tY oky ?_; refine Z ?_; refine nw (by omega) (by omega) ?_; iterate 2 refine Z ?_
              refine jmm (by omega) (by omega) ?_; refine gm (by omega) ?_; refine tN okn ?_; refine nw (by omega) (by omega) ?_; rotate_left; refine hR (k + 1) _ _ ?_ ?_; rotate_left; refine weak.mk [] [0] rfl rfl ?_ ?_
              repeat' first | exact trivial | exact rfl | exact Iff.rfl | assumption | exact pureI | exact (show _ = _ by omega) | exact (show _ ≤ _ by omega) | exact (show _ < _ by omega) | exact (show ¬ _ by omega) | refine And.intro ?_ ?_
              rotate_right; refine ⟨⟨by omega, hin, fun i hi => ?_⟩, by omega⟩
              by_cases e : i + 1 = k
              · rw [getI (by omega), getI (by omega)]
                have e2 : i = k - 1 := by omega
                subst e2
                simp only [show k - 1 + 1 = k by omega]
                exact hlt
              · exact hr i (by omega)
            · have hno : ¬ crowd n l := fun h => by
                have := h.2.2 (k - 1) (by omega)
                rw [getI (by omega), getI (by omega)] at this
                simp only [show k - 1 + 1 = k by omega] at this
                exact hlt this
              refine tY oky ?_; iterate 2 refine Z ?_
              refine jkm (by omega) ?_; refine gm (by omega) ?_; refine Z ?_; refine nw (by omega) (by omega) ?_; refine callW.mk [] 1 _ _ _ (within_c _ _ _) rfl rfl trivial nofun ?_; refine tN okn ?_; refine tY oky ?_; refine Z ?_; refine nw (by omega) (by omega) ?_; iterate 2 refine Z ?_
              refine jmm (by omega) (by omega) ?_; refine gm (by omega) ?_; refine tY oky ?_; rotate_left; refine doneV.mk [] [] rfl rfl ?_ ?_ ?_
              repeat' first | exact trivial | exact rfl | exact Iff.rfl | assumption | exact pureI | exact (show _ = _ by omega) | exact (show _ ≤ _ by omega) | exact (show _ < _ by omega) | exact (show ¬ _ by omega) | refine And.intro ?_ ?_
              all_goals exact hno
          · refine tY oky ?_
            iterate 2 refine Z ?_
            refine jkm (by omega) ?_; refine gm (by omega) ?_; refine Z ?_; refine nw (by omega) (by omega) ?_; refine callW.mk [] 1 _ _ _ (within_c _ _ _) rfl rfl trivial nofun ?_; iterate 2 refine tN okn ?_
            refine nw (by omega) (by omega) ?_; rotate_left; refine hR (k + 1) _ _ ?_ ?_; rotate_left; refine weak.mk [] [0] rfl rfl ?_ ?_
            repeat' first | exact trivial | exact rfl | exact Iff.rfl | assumption | exact pureI | exact (show _ = _ by omega) | exact (show _ ≤ _ by omega) | exact (show _ < _ by omega) | exact (show ¬ _ by omega) | refine And.intro ?_ ?_
            rotate_right; refine ⟨⟨by omega, hin, fun i hi => by omega⟩, by omega⟩
        · have hno : ¬ crowd n l := fun h => by
            have := h.2.1 _ (List.getElem_mem hkl)
            omega
          refine tY oky ?_; iterate 2 refine Z ?_
          refine jkm (by omega) ?_; refine gm (by omega) ?_; refine Z ?_; refine nw (by omega) (by omega) ?_; refine callW.mk [] 1 _ _ _ (within_c _ _ _) rfl rfl trivial nofun ?_; refine tY oky ?_; rotate_left; refine doneV.mk [] [] rfl rfl ?_ ?_ ?_
          repeat' first | exact trivial | exact rfl | exact Iff.rfl | assumption | exact pureI | exact (show _ = _ by omega) | exact (show _ ≤ _ by omega) | exact (show _ < _ by omega) | exact (show ¬ _ by omega) | refine And.intro ?_ ?_
          all_goals exact hno
      · have e : k = l.length := by omega
        rw [e, List.take_length] at hi
        rw [e] at hr
        refine tN okn ?_; refine Z ?_; refine callW.mk [] 1 _ _ _ (within_c _ _ _) rfl rfl trivial nofun ?_; refine tY oky ?_; refine Z ?_; refine lm ?_; refine callW.mk [] 1 _ _ _ (within_c _ _ _) rfl rfl trivial nofun ?_; rotate_left
        · refine doneV.mk [] [] rfl rfl ?_ ?_ ?_
          repeat' first | exact trivial | exact rfl | exact Iff.rfl | assumption | exact pureI | exact (show _ = _ by omega) | exact (show _ ≤ _ by omega) | exact (show _ < _ by omega) | exact (show ¬ _ by omega) | refine And.intro ?_ ?_
          all_goals exact (show _ ↔ _ from ⟨fun h => ⟨⟨hn, h⟩, hi, hr⟩, fun h => h.1.2⟩)
  · have hno : ¬ crowd n l := fun h => hn h.1.1
    refine loop_up (β := Nat) (fun k => [(8, i64 k), (2, .unk)]) (fun k => []) [] (fun k => k ≤ l.length) (fun k => l.length - k) (0) ?_ ?_ ?_
    · exact Nat.zero_le _
    · refine weak.mk [] [0] rfl rfl ?_ ?_
      repeat' first | exact trivial | exact rfl | exact Iff.rfl | assumption | exact pureI | exact (show _ = _ by omega) | exact (show _ ≤ _ by omega) | exact (show _ < _ by omega) | exact (show ¬ _ by omega) | refine And.intro ?_ ?_
    · rintro k hk R hR
      by_cases hkl : k < l.length
      · by_cases hk0 : 0 < k
        · refine tY oky ?_
          iterate 2 refine Z ?_
          refine jkm (by omega) ?_; refine gm (by omega) ?_; refine Z ?_; rotate_left; refine nr ?_; refine callW.mk [] 1 _ _ _ (within_c _ _ _) rfl rfl trivial nofun ?_; refine twoN (fun _ => ?_) (fun _ => ?_); rotate_left; refine tY oky ?_; refine Z ?_; refine nw (by omega) (by omega) ?_; iterate 2 refine Z ?_
          refine jmm (by omega) (by omega) ?_; refine gm (by omega) ?_; refine twoP.mk (fun _ => ?_) (fun _ => ?_); rotate_left; refine nw (by omega) (by omega) ?_; rotate_left
          · refine dv0 rfl ?_
            exact hno
          · refine dv0 rfl ?_
            exact hno
          · refine hR (k + 1) _ _ ?_ ?_
            rotate_left; refine weak.mk [] [0] rfl rfl ?_ ?_
            repeat' first | exact trivial | exact rfl | exact Iff.rfl | assumption | exact pureI | exact (show _ = _ by omega) | exact (show _ ≤ _ by omega) | exact (show _ < _ by omega) | exact (show ¬ _ by omega) | refine And.intro ?_ ?_
            rotate_right
            exact ⟨by omega, by omega⟩
        · refine tY oky ?_
          iterate 2 refine Z ?_
          refine jkm (by omega) ?_; refine gm (by omega) ?_; refine Z ?_; rotate_left; refine nr ?_; refine callW.mk [] 1 _ _ _ (within_c _ _ _) rfl rfl trivial nofun ?_; refine twoN (fun _ => ?_) (fun _ => ?_); rotate_left; refine tN okn ?_; refine nw (by omega) (by omega) ?_; rotate_left
          · refine dv0 rfl ?_
            exact hno
          · refine hR (k + 1) _ _ ?_ ?_
            rotate_left; refine weak.mk [] [0] rfl rfl ?_ ?_
            repeat' first | exact trivial | exact rfl | exact Iff.rfl | assumption | exact pureI | exact (show _ = _ by omega) | exact (show _ ≤ _ by omega) | exact (show _ < _ by omega) | exact (show ¬ _ by omega) | refine And.intro ?_ ?_
            rotate_right
            exact ⟨by omega, by omega⟩
      · refine tN okn ?_
        refine Z ?_; refine callW.mk [] 1 _ _ _ (within_c _ _ _) rfl rfl trivial nofun ?_; refine tN okn ?_; rotate_left; refine doneV.mk [] [] rfl rfl ?_ ?_ ?_
        repeat' first | exact trivial | exact rfl | exact Iff.rfl | assumption | exact pureI | exact (show _ = _ by omega) | exact (show _ ≤ _ by omega) | exact (show _ < _ by omega) | exact (show ¬ _ by omega) | refine And.intro ?_ ?_
        all_goals exact hno
theorem turned1_c (p s n : Int) (l : List Int) (hp : 0 ≤ p ∧ p < 1000) (hs : 0 ≤ s ∧ s < 1000) (hn : 0 < n ∧ n < 1000) : C 105 [i64 p, .pim 1 [i64 s] 0 0, .pim 2 [.agg [i64 n, ints l]] 0 0] [] (i64 (trF n s p)) [] false := by
  refine mkC false false Try.func105 rfl ?_; refine And.intro nofun ?_; refine getP.mk _ rfl ?_; refine nw (by omega) (by omega) ?_; refine Z ?_; refine getP.mk _ rfl ?_; refine And.intro (by omega) ?_; refine ntm (by omega) ?_; rotate_left; refine doneV.mk [] [] rfl rfl ?_ ?_ ?_
  repeat' first | exact trivial | exact rfl | exact Iff.rfl | assumption | exact pureI | exact (show _ = _ by omega) | exact (show _ ≤ _ by omega) | exact (show _ < _ by omega) | exact (show ¬ _ by omega) | refine And.intro ?_ ?_
theorem mirrored1_c (p n : Int) (l : List Int) (hp : 0 ≤ p ∧ p < 1000) (hn : 0 < n ∧ n < 1000) : C 108 [i64 p, .pim 2 [.agg [i64 n, ints l]] 0 0] [] (i64 (miF n p)) [] false := by
  refine mkC false false Try.func108 rfl ?_; refine And.intro nofun ?_; refine Z ?_; refine getP.mk _ rfl ?_; iterate 2 refine nw (by omega) (by omega) ?_
  rotate_left; refine doneV.mk [] [] rfl rfl ?_ ?_ ?_
  repeat' first | exact trivial | exact rfl | exact Iff.rfl | assumption | exact pureI | exact (show _ = _ by omega) | exact (show _ ≤ _ by omega) | exact (show _ < _ by omega) | exact (show ¬ _ by omega) | refine And.intro ?_ ?_
theorem mapped_k1 {f s1 j1 t1 : Nat} {e1 : List AV} (g : Int → Int) (l : List Int) (hl : l.length ≤ 1099511627776) (h : ∀ x ∈ l, C f [i64 x, .pim s1 e1 j1 t1] [] (i64 (g x)) [] false) : C 119 [ints l, .fn (.func f) [] [.pim s1 e1 j1 t1]] [] (.loc 0) [row (l.map g)] false := by
  refine mkC false false Try.func119 rfl ?_; refine And.intro nofun ?_; iterate 2 refine Z ?_
  refine lm ?_; rotate_left; refine loop_up (β := Nat) (fun k => [(11, i64 k), (5, .loc 0)]) (fun k => [(0, row ((l.take k).map g))]) [1] (fun k => k ≤ l.length) (fun k => l.length - k) (0) ?_ ?_ ?_
  · omega
  · refine weak.mk [1] [0] rfl rfl ?_ ?_
    repeat' first | exact trivial | exact rfl | exact Iff.rfl | assumption | exact pureI | exact (show _ = _ by omega) | exact (show _ ≤ _ by omega) | exact (show _ < _ by omega) | exact (show ¬ _ by omega) | refine And.intro ?_ ?_
  · rintro k hk R hR
    by_cases hkn : k < l.length
    · refine tY oky ?_
      iterate 2 refine Z ?_
      refine jkm (by omega) ?_; refine gm (by omega) ?_; refine callW.mk [] 1 _ _ _ (h l[k] (List.getElem_mem _)) rfl rfl okk nofun ?_; iterate 10 refine Z ?_
      refine leP.mk (by first | (simp [big]; omega) | (simp [big]; done)) ?_; refine ea ?_; refine nw (by omega) (by omega) ?_; rotate_left; refine hR (k + 1) _ _ ?_ ?_; rotate_left; refine weak.mk [] [2] rfl rfl ?_ ?_
      repeat' first | exact trivial | exact rfl | exact Iff.rfl | assumption | exact pureI | exact (show _ = _ by omega) | exact (show _ ≤ _ by omega) | exact (show _ < _ by omega) | exact (show ¬ _ by omega) | refine And.intro ?_ ?_
      rotate_right
      · exact ⟨by omega, by omega⟩
      · rw [take_snoc hkn, List.map_append]; rfl
    · refine tN okn ?_
      rotate_left; refine doneV.mk [] [0] rfl rfl ?_ ?_ ?_
      repeat' first | exact trivial | exact rfl | exact Iff.rfl | assumption | exact pureI | exact (show _ = _ by omega) | exact (show _ ≤ _ by omega) | exact (show _ < _ by omega) | exact (show ¬ _ by omega) | refine And.intro ?_ ?_
      rw [List.take_of_length_le (by omega)]
theorem mapped_k2 {f s1 j1 t1 s2 j2 t2 : Nat} {e1 e2 : List AV} (g : Int → Int) (l : List Int) (hl : l.length ≤ 1099511627776) (h : ∀ x ∈ l, C f [i64 x, .pim s1 e1 j1 t1, .pim s2 e2 j2 t2] [] (i64 (g x)) [] false) : C 119 [ints l, .fn (.func f) [] [.pim s1 e1 j1 t1, .pim s2 e2 j2 t2]] [] (.loc 0) [row (l.map g)] false := by
  refine mkC false false Try.func119 rfl ?_; refine And.intro nofun ?_; iterate 2 refine Z ?_
  refine lm ?_; rotate_left; refine loop_up (β := Nat) (fun k => [(11, i64 k), (5, .loc 0)]) (fun k => [(0, row ((l.take k).map g))]) [1] (fun k => k ≤ l.length) (fun k => l.length - k) (0) ?_ ?_ ?_
  · omega
  · refine weak.mk [1] [0] rfl rfl ?_ ?_
    repeat' first | exact trivial | exact rfl | exact Iff.rfl | assumption | exact pureI | exact (show _ = _ by omega) | exact (show _ ≤ _ by omega) | exact (show _ < _ by omega) | exact (show ¬ _ by omega) | refine And.intro ?_ ?_
  · rintro k hk R hR
    by_cases hkn : k < l.length
    · refine tY oky ?_
      iterate 2 refine Z ?_
      refine jkm (by omega) ?_; refine gm (by omega) ?_; refine callW.mk [] 1 _ _ _ (h l[k] (List.getElem_mem _)) rfl rfl okk nofun ?_; iterate 10 refine Z ?_
      refine leP.mk (by first | (simp [big]; omega) | (simp [big]; done)) ?_; refine ea ?_; refine nw (by omega) (by omega) ?_; rotate_left; refine hR (k + 1) _ _ ?_ ?_; rotate_left; refine weak.mk [] [2] rfl rfl ?_ ?_
      repeat' first | exact trivial | exact rfl | exact Iff.rfl | assumption | exact pureI | exact (show _ = _ by omega) | exact (show _ ≤ _ by omega) | exact (show _ < _ by omega) | exact (show ¬ _ by omega) | refine And.intro ?_ ?_
      rotate_right
      · exact ⟨by omega, by omega⟩
      · rw [take_snoc hkn, List.map_append]; rfl
    · refine tN okn ?_
      rotate_left; refine doneV.mk [] [0] rfl rfl ?_ ?_ ?_
      repeat' first | exact trivial | exact rfl | exact Iff.rfl | assumption | exact pureI | exact (show _ = _ by omega) | exact (show _ ≤ _ by omega) | exact (show _ < _ by omega) | exact (show ¬ _ by omega) | refine And.intro ?_ ?_
      rw [List.take_of_length_le (by omega)]
theorem sorted_e {n : Int} {l M : List Int} {g : Int → Int} (hc : crowd n l) (h : okF n l g) (hM : M.Perm (l.map g) ∧ sortU M M.length) : M = srt n (l.map g) :=
  let ⟨a, b⟩ := okF_nodup hc h
  srt_of hM.1 (sortU_pw hM.2) a b
theorem moved_k1 {f s1 j1 t1 : Nat} {e1 : List AV} (g : Int → Int) (n : Int) (l : List Int) (hc : crowd n l) (hg : okF n l g) (h : ∀ x ∈ l, C f [i64 x, .pim s1 e1 j1 t1] [] (i64 (g x)) [] false) : C 104 [.agg [i64 n, ints l], .fn (.func f) [] [.pim s1 e1 j1 t1]] [] (.agg [i64 n, .loc 0]) [row (srt n (l.map g))] false := by
  have hl := hc.1.2
  have hml : (l.map g).length = l.length := List.length_map ..
  refine mkC false false Try.func104 rfl ?_; refine And.intro nofun ?_; iterate 3 refine Z ?_
  refine callW.mk [] 2 _ _ _ ((mapped_k1 g l (by omega) h)) rfl rfl okk nofun ?_; refine callW.mkE [] [2] 3 _ _ _ _ (Sort_c _ (by first | omega | assumption | (simp; omega) | (simp; done) | exact trivial | exact h _ (List.getElem_mem _))) rfl rfl trivial nofun (fun _ _ => ?_); iterate 12 refine Z ?_
  rotate_left
  rename_i M hM
  rw [sorted_e hc hg hM]
  refine doneV.mk [] [2] rfl rfl ?_ ?_ ?_
  repeat' first | exact trivial | exact rfl | exact Iff.rfl | assumption | exact pureI | exact (show _ = _ by omega) | exact (show _ ≤ _ by omega) | exact (show _ < _ by omega) | exact (show ¬ _ by omega) | refine And.intro ?_ ?_
theorem moved_k2 {f s1 j1 t1 s2 j2 t2 : Nat} {e1 e2 : List AV} (g : Int → Int) (n : Int) (l : List Int) (hc : crowd n l) (hg : okF n l g) (h : ∀ x ∈ l, C f [i64 x, .pim s1 e1 j1 t1, .pim s2 e2 j2 t2] [] (i64 (g x)) [] false) : C 104 [.agg [i64 n, ints l], .fn (.func f) [] [.pim s1 e1 j1 t1, .pim s2 e2 j2 t2]] [] (.agg [i64 n, .loc 0]) [row (srt n (l.map g))] false := by
  have hl := hc.1.2
  have hml : (l.map g).length = l.length := List.length_map ..
  refine mkC false false Try.func104 rfl ?_; refine And.intro nofun ?_; iterate 3 refine Z ?_
  refine callW.mk [] 2 _ _ _ ((mapped_k2 g l (by omega) h)) rfl rfl okk nofun ?_; refine callW.mkE [] [2] 3 _ _ _ _ (Sort_c _ (by first | omega | assumption | (simp; omega) | (simp; done) | exact trivial | exact h _ (List.getElem_mem _))) rfl rfl trivial nofun (fun _ _ => ?_); iterate 12 refine Z ?_
  rotate_left
  rename_i M hM
  rw [sorted_e hc hg hM]
  refine doneV.mk [] [2] rfl rfl ?_ ?_ ?_
  repeat' first | exact trivial | exact rfl | exact Iff.rfl | assumption | exact pureI | exact (show _ = _ by omega) | exact (show _ ≤ _ by omega) | exact (show _ < _ by omega) | exact (show ¬ _ by omega) | refine And.intro ?_ ?_
theorem turned_c (n s : Int) (l : List Int) (hc : crowd n l) (hs : 0 ≤ s ∧ s < 1000) : C 70 [.agg [i64 n, ints l], i64 s] [] (.agg [i64 n, .loc 0]) [row (trn n s l)] false := by
  have hn := hc.1.1
  refine mkC false false Try.func70 rfl ?_; refine And.intro nofun ?_; iterate 3 refine Z ?_
  refine callW.mk [] 3 _ _ _ ((moved_k2 (trF n s) n l hc (trF_ok hc) (fun x hx => turned1_c x s n l (by have := hc.2.1 x hx; omega) hs (by omega)))) rfl rfl okk nofun ?_; iterate 4 refine Z ?_
  rotate_left; refine doneV.mk [] [3] rfl rfl ?_ ?_ ?_
  repeat' first | exact trivial | exact rfl | exact Iff.rfl | assumption | exact pureI | exact (show _ = _ by omega) | exact (show _ ≤ _ by omega) | exact (show _ < _ by omega) | exact (show ¬ _ by omega) | refine And.intro ?_ ?_
theorem mirrored_c (n : Int) (l : List Int) (hc : crowd n l) : C 81 [.agg [i64 n, ints l]] [] (.agg [i64 n, .loc 0]) [row (mir n l)] false := by
  have hn := hc.1.1
  refine mkC false false Try.func81 rfl ?_; refine And.intro nofun ?_; iterate 2 refine Z ?_
  refine callW.mk [] 2 _ _ _ ((moved_k1 (miF n) n l hc (miF_ok hc) (fun x hx => mirrored1_c x n l (by have := hc.2.1 x hx; omega) (by omega)))) rfl rfl okk nofun ?_; iterate 4 refine Z ?_
  rotate_left; refine doneV.mk [] [2] rfl rfl ?_ ?_ ?_
  repeat' first | exact trivial | exact rfl | exact Iff.rfl | assumption | exact pureI | exact (show _ = _ by omega) | exact (show _ ≤ _ by omega) | exact (show _ < _ by omega) | exact (show ¬ _ by omega) | refine And.intro ?_ ?_
theorem l1Rising_c (l : List Int) (hl : l.length ≤ 1099511627776) (a b : Int) : C 86 [ints l, i64 a, i64 b] [] (pr ((∀ x ∈ l, a ≤ x ∧ x ≤ b) ∧ rise l l.length)) [] false := by
  refine mkC false false Try.func86 rfl ?_; refine And.intro nofun ?_; rotate_left; refine loop_up (β := Nat) (fun k => [(7, i64 k), (6, .unk)]) (fun k => []) [] (fun k => k ≤ l.length ∧ (∀ x ∈ l.take k, a ≤ x ∧ x ≤ b) ∧ rise l k) (fun k => l.length - k) (0) ?_ ?_ ?_
  · exact ⟨Nat.zero_le _, fun x hx => by simp at hx, fun i hi => by omega⟩
  · refine weak.mk [] [] rfl rfl ?_ ?_
    repeat' first | exact trivial | exact rfl | exact Iff.rfl | assumption | exact pureI | exact (show _ = _ by omega) | exact (show _ ≤ _ by omega) | exact (show _ < _ by omega) | exact (show ¬ _ by omega) | refine And.intro ?_ ?_
  · rintro k ⟨hk, hi, hr⟩ R hR
    by_cases hkl : k < l.length
    · by_cases hp : a ≤ l[k] ∧ l[k] ≤ b
      · have hin : ∀ x ∈ l.take (k + 1), a ≤ x ∧ x ≤ b := by
          intro x hx
          rw [take_snoc hkl] at hx
          rcases List.mem_append.1 hx with hx | hx
          · exact hi x hx
          · rw [List.mem_singleton.1 hx]; exact hp
        by_cases hk0 : 0 < k
        · by_cases hlt : l[k - 1] < l[k]
          · refine lm ?_
            refine tY oky ?_; refine drawP.mk 24 (Z (Z (Z (Z ?_))))
            apply exP.mk
            exact rfl
            apply exP.mk
            exact rfl
            apply exP.mk
            iterate 2 refine Z ?_
            refine jkm (by omega) ?_
            exact rfl
            apply exP.mk
            refine gm (by omega) ?_
            exact rfl
            apply exP.mk
            exact rfl
            apply exP.mk
            exact rfl
            apply exP.mk
            refine callP.mk _ _ _ (in_c _ _ _) trivial nofun trivial ?_
            exact rfl
            apply exP.mk
            exact rfl
            apply exP.mk
            exact rfl
            refine tN okn ?_
            apply exP.mk
            exact rfl
            apply exP.mk
            exact rfl
            apply exP.mk
            exact rfl
            refine tY oky ?_
            apply exP.mk
            exact rfl
            apply exP.mk
            exact rfl
            apply exP.mk
            refine nw (by omega) (by omega) ?_
            exact rfl
            apply exP.mk
            iterate 2 refine Z ?_
            refine jmm (by omega) (by omega) ?_
            exact rfl
            apply exP.mk
            refine gm (by omega) ?_
            exact rfl
            apply exP.mk
            exact rfl
            apply exP.mk
            exact rfl
            apply exP.mk
            iterate 2 refine Z ?_
            refine jkm (by omega) ?_
            exact rfl
            apply exP.mk
            refine gm (by omega) ?_
            exact rfl
            apply exP.mk
            exact rfl
            refine tN okn ?_; refine nw (by omega) (by omega) ?_; rotate_left; refine hR (k + 1) _ _ ?_ ?_; rotate_left; refine weak.mk [] [] rfl rfl ?_ ?_
            repeat' first | exact trivial | exact rfl | exact Iff.rfl | assumption | exact pureI | exact (show _ = _ by omega) | exact (show _ ≤ _ by omega) | exact (show _ < _ by omega) | exact (show ¬ _ by omega) | refine And.intro ?_ ?_
            rotate_right; refine ⟨⟨by omega, hin, fun i hi => ?_⟩, by omega⟩
            by_cases e : i + 1 = k
            · rw [getI (by omega), getI (by omega)]
              have e2 : i = k - 1 := by omega
              subst e2
              simp only [show k - 1 + 1 = k by omega]
              exact hlt
            · exact hr i (by omega)
          · have hno : ¬ ((∀ x ∈ l, a ≤ x ∧ x ≤ b) ∧ rise l l.length) := fun h => by
              have := h.2 (k - 1) (by omega)
              rw [getI (by omega), getI (by omega)] at this
              simp only [show k - 1 + 1 = k by omega] at this
              exact hlt this
            refine lm ?_; refine tY oky ?_; refine drawP.mk 24 (Z (Z (Z (Z ?_))))
            apply exP.mk
            exact rfl
            apply exP.mk
            exact rfl
            apply exP.mk
            iterate 2 refine Z ?_
            refine jkm (by omega) ?_
            exact rfl
            apply exP.mk
            refine gm (by omega) ?_
            exact rfl
            apply exP.mk
            exact rfl
            apply exP.mk
            exact rfl
            apply exP.mk
            refine callP.mk _ _ _ (in_c _ _ _) trivial nofun trivial ?_
            exact rfl
            apply exP.mk
            exact rfl
            apply exP.mk
            exact rfl
            refine tN okn ?_
            apply exP.mk
            exact rfl
            apply exP.mk
            exact rfl
            apply exP.mk
            exact rfl
            refine tY oky ?_
            apply exP.mk
            exact rfl
            apply exP.mk
            exact rfl
            apply exP.mk
            refine nw (by omega) (by omega) ?_
            exact rfl
            apply exP.mk
            iterate 2 refine Z ?_
            refine jmm (by omega) (by omega) ?_
            exact rfl
            apply exP.mk
            refine gm (by omega) ?_
            exact rfl
            apply exP.mk
            exact rfl
            apply exP.mk
            exact rfl
            apply exP.mk
            iterate 2 refine Z ?_
            refine jkm (by omega) ?_
            exact rfl
            apply exP.mk
            refine gm (by omega) ?_
            exact rfl
            apply exP.mk
            exact rfl
            refine tY oky ?_; rotate_left; refine doneV.mk [] [] rfl rfl ?_ ?_ ?_
            repeat' first | exact trivial | exact rfl | exact Iff.rfl | assumption | exact pureI | exact (show _ = _ by omega) | exact (show _ ≤ _ by omega) | exact (show _ < _ by omega) | exact (show ¬ _ by omega) | refine And.intro ?_ ?_
            all_goals exact hno
        · refine lm ?_
          refine tY oky ?_; refine drawP.mk 24 (Z (Z (Z (Z ?_))))
          apply exP.mk
          exact rfl
          apply exP.mk
          exact rfl
          apply exP.mk
          iterate 2 refine Z ?_
          refine jkm (by omega) ?_
          exact rfl
          apply exP.mk
          refine gm (by omega) ?_
          exact rfl
          apply exP.mk
          exact rfl
          apply exP.mk
          exact rfl
          apply exP.mk
          refine callP.mk _ _ _ (in_c _ _ _) trivial nofun trivial ?_
          exact rfl
          apply exP.mk
          exact rfl
          apply exP.mk
          exact rfl
          refine tN okn ?_
          apply exP.mk
          exact rfl
          apply exP.mk
          exact rfl
          apply exP.mk
          exact rfl
          refine tN okn ?_; refine nw (by omega) (by omega) ?_; rotate_left; refine hR (k + 1) _ _ ?_ ?_; rotate_left; refine weak.mk [] [] rfl rfl ?_ ?_
          repeat' first | exact trivial | exact rfl | exact Iff.rfl | assumption | exact pureI | exact (show _ = _ by omega) | exact (show _ ≤ _ by omega) | exact (show _ < _ by omega) | exact (show ¬ _ by omega) | refine And.intro ?_ ?_
          rotate_right; refine ⟨⟨by omega, hin, fun i hi => by omega⟩, by omega⟩
      · have hno : ¬ ((∀ x ∈ l, a ≤ x ∧ x ≤ b) ∧ rise l l.length) := fun h => hp (h.1 _ (List.getElem_mem hkl))
        refine lm ?_; refine tY oky ?_; refine drawP.mk 24 (Z (Z (Z (Z ?_))))
        apply exP.mk
        exact rfl
        apply exP.mk
        exact rfl
        apply exP.mk
        iterate 2 refine Z ?_
        refine jkm (by omega) ?_
        exact rfl
        apply exP.mk
        refine gm (by omega) ?_
        exact rfl
        apply exP.mk
        exact rfl
        apply exP.mk
        exact rfl
        apply exP.mk
        refine callP.mk _ _ _ (in_c _ _ _) trivial nofun trivial ?_
        exact rfl
        apply exP.mk
        exact rfl
        apply exP.mk
        exact rfl
        refine tY oky ?_; rotate_left; refine doneV.mk [] [] rfl rfl ?_ ?_ ?_
        repeat' first | exact trivial | exact rfl | exact Iff.rfl | assumption | exact pureI | exact (show _ = _ by omega) | exact (show _ ≤ _ by omega) | exact (show _ < _ by omega) | exact (show ¬ _ by omega) | refine And.intro ?_ ?_
        all_goals exact hno
    · have e : k = l.length := by omega
      rw [e, List.take_length] at hi
      rw [e] at hr
      refine lm ?_; refine tN okn ?_; rotate_left; refine doneV.mk [] [] rfl rfl ?_ ?_ ?_
      repeat' first | exact trivial | exact rfl | exact Iff.rfl | assumption | exact pureI | exact (show _ = _ by omega) | exact (show _ ≤ _ by omega) | exact (show _ < _ by omega) | exact (show ¬ _ by omega) | refine And.intro ?_ ?_
      all_goals exact ⟨hi, hr⟩
theorem l10Crowd_c (n : Int) (l : List Int) (hl : l.length ≤ 1099511627776) : C 51 [.agg [i64 n, ints l]] [] (pr (crowd n l)) [] false := by
  refine mkC false false Try.func51 rfl ?_; refine And.intro nofun ?_
  by_cases hn : (3 ≤ n ∧ n ≤ 12) ∧ 1 ≤ (l.length : Int) ∧ (l.length : Int) ≤ 6
  · iterate 2 refine Z ?_
    refine callW.mk [] 1 _ _ _ (in_c _ _ _) rfl rfl trivial nofun ?_; refine tY oky ?_; refine Z ?_; refine lm ?_; refine callW.mk [] 1 _ _ _ (in_c _ _ _) rfl rfl trivial nofun ?_; refine tY oky ?_; iterate 2 refine Z ?_
    refine nw (by omega) (by omega) ?_; refine callW.mk [] 1 _ _ _ (l1Rising_c _ oka _ _) rfl rfl trivial nofun ?_; rotate_left; refine doneV.mk [] [] rfl rfl ?_ ?_ ?_
    repeat' first | exact trivial | exact rfl | exact Iff.rfl | assumption | exact pureI | exact (show _ = _ by omega) | exact (show _ ≤ _ by omega) | exact (show _ < _ by omega) | exact (show ¬ _ by omega) | refine And.intro ?_ ?_
    all_goals exact (show _ ↔ _ from ⟨fun h => ⟨hn, fun x hx => by have := h.1 x hx; omega, h.2⟩, fun h => ⟨fun x hx => by have := h.2.1 x hx; omega, h.2.2⟩⟩)
  · have hno : ¬ crowd n l := fun h => hn h.1
    by_cases h3 : 3 ≤ n ∧ n ≤ 12
    · iterate 2 refine Z ?_
      refine callW.mk [] 1 _ _ _ (in_c _ _ _) rfl rfl trivial nofun ?_; refine tY oky ?_; refine Z ?_; refine lm ?_; refine callW.mk [] 1 _ _ _ (in_c _ _ _) rfl rfl trivial nofun ?_; refine tN okn ?_; rotate_left; refine doneV.mk [] [] rfl rfl ?_ ?_ ?_
      repeat' first | exact trivial | exact rfl | exact Iff.rfl | assumption | exact pureI | exact (show _ = _ by omega) | exact (show _ ≤ _ by omega) | exact (show _ < _ by omega) | exact (show ¬ _ by omega) | refine And.intro ?_ ?_
      all_goals exact hno
    · iterate 2 refine Z ?_
      refine callW.mk [] 1 _ _ _ (in_c _ _ _) rfl rfl trivial nofun ?_; refine tN okn ?_; rotate_left; refine doneV.mk [] [] rfl rfl ?_ ?_ ?_
      repeat' first | exact trivial | exact rfl | exact Iff.rfl | assumption | exact pureI | exact (show _ = _ by omega) | exact (show _ ≤ _ by omega) | exact (show _ < _ by omega) | exact (show ¬ _ by omega) | refine And.intro ?_ ?_
      all_goals exact hno
theorem l10Turned_c (n s : Int) (l : List Int) (hc : crowd n l) (hs : 0 ≤ s ∧ s < 1000) : C 78 [.agg [i64 n, ints l], i64 s] [] (.agg [i64 n, .loc 0]) [row (trn n s l)] false := by
  have hn := hc.1.1
  have hl := hc.1.2
  refine mkC false false Try.func78 rfl ?_; refine And.intro nofun ?_; iterate 17 refine Z ?_
  rotate_left; refine loop_up (β := Nat) (fun k => [(6, i64 k)]) (fun k => [(2, .row .var 2 [.agg [i64 n, .loc 3]]), (3, row (putK n (trF n s) l k))]) [1] (fun k => k ≤ l.length) (fun k => l.length - k) (0) ?_ ?_ ?_
  · omega
  · refine weak.mk [1] [0, 1, 2, 3] rfl rfl ?_ ?_
    repeat' first | exact trivial | exact rfl | exact Iff.rfl | assumption | exact pureI | exact (show _ = _ by omega) | exact (show _ ≤ _ by omega) | exact (show _ < _ by omega) | exact (show ¬ _ by omega) | refine And.intro ?_ ?_
  · rintro k hk R hR
    rw [putK_eq]
    by_cases hkl : k < l.length
    · obtain ⟨hx, hnew⟩ := img_new hc (trF_ok hc) hkl
      have hle := srt_le n ((l.take k).map (trF n s))
      have hkl2 := hc.2.1 _ (List.getElem_mem hkl)
      refine Z ?_; refine lm ?_; refine tY oky ?_; refine drawP.mkS (Z (Z ?_)); refine Z ?_
      apply exP.mk
      refine Z ?_
      exact rfl
      apply exP.mk
      exact rfl
      apply exP.mk
      refine Z ?_
      exact rfl
      apply exP.mk
      exact rfl
      apply exP.mk
      exact rfl
      apply exP.mk
      iterate 2 refine Z ?_
      refine jkm (by omega) ?_
      exact rfl
      apply exP.mk
      refine gm (by omega) ?_
      exact rfl
      apply exP.mk
      exact rfl
      apply exP.mk
      refine nw (by omega) (by omega) ?_
      exact rfl
      apply exP.mk
      refine Z ?_
      exact rfl
      apply exP.mk
      exact rfl
      apply exP.mk
      refine And.intro (by omega) ?_; refine ntm (by omega) ?_
      exact rfl
      refine callW.mk [] 4 _ _ _ ((putNew_c n ((l.take k).map (trF n s)) (trF n s l[k]) hx (by omega) hnew)) rfl rfl okk nofun ?_; refine Z ?_
      apply exP.mk
      refine Z ?_
      exact rfl
      iterate 5 refine Z ?_
      refine nw (by omega) (by omega) ?_; rotate_left; refine hR (k + 1) _ _ ?_ ?_; rotate_left; refine weak.mk [] [0, 1, 2, 4] rfl rfl ?_ ?_
      repeat' first | exact trivial | exact rfl | exact Iff.rfl | assumption | exact pureI | exact (show _ = _ by omega) | exact (show _ ≤ _ by omega) | exact (show _ < _ by omega) | exact (show ¬ _ by omega) | refine And.intro ?_ ?_
      rotate_right
      · exact ⟨by omega, by omega⟩
      · exact map_congr (img_next hkl)
    · refine Z ?_
      refine lm ?_; refine tN okn ?_; iterate 4 refine Z ?_
      rotate_left; refine doneV.mk [] [3] rfl rfl ?_ ?_ ?_
      repeat' first | exact trivial | exact rfl | exact Iff.rfl | assumption | exact pureI | exact (show _ = _ by omega) | exact (show _ ≤ _ by omega) | exact (show _ < _ by omega) | exact (show ¬ _ by omega) | refine And.intro ?_ ?_
      exact map_congr (by rw [List.take_of_length_le (by omega)]; rfl)
theorem l10Mirror_c (n : Int) (l : List Int) (hc : crowd n l) (m : Int) (hm : m = n - 1) : C 82 [.agg [i64 n, ints l], i64 m] [] (.agg [i64 n, .loc 0]) [row (mir n l)] false := by
  have hn := hc.1.1
  have hl := hc.1.2
  subst hm
  refine mkC false false Try.func82 rfl ?_; refine And.intro nofun ?_; iterate 17 refine Z ?_
  rotate_left; refine loop_up (β := Nat) (fun k => [(6, i64 k)]) (fun k => [(2, .row .var 2 [.agg [i64 n, .loc 3]]), (3, row (putK n (miF n) l k))]) [1] (fun k => k ≤ l.length) (fun k => l.length - k) (0) ?_ ?_ ?_
  · omega
  · refine weak.mk [1] [0, 1, 2, 3] rfl rfl ?_ ?_
    repeat' first | exact trivial | exact rfl | exact Iff.rfl | assumption | exact pureI | exact (show _ = _ by omega) | exact (show _ ≤ _ by omega) | exact (show _ < _ by omega) | exact (show ¬ _ by omega) | refine And.intro ?_ ?_
  · rintro k hk R hR
    rw [putK_eq]
    by_cases hkl : k < l.length
    · obtain ⟨hx, hnew⟩ := img_new hc (miF_ok hc) hkl
      have hle := srt_le n ((l.take k).map (miF n))
      have hkl2 := hc.2.1 _ (List.getElem_mem hkl)
      rw [← miF_eq hkl2] at hx hnew
      refine Z ?_; refine lm ?_; refine tY oky ?_; refine drawP.mkS (Z (Z ?_)); refine Z ?_
      apply exP.mk
      refine Z ?_
      exact rfl
      apply exP.mk
      exact rfl
      apply exP.mk
      exact rfl
      apply exP.mk
      refine Z ?_
      exact rfl
      apply exP.mk
      exact rfl
      apply exP.mk
      exact rfl
      apply exP.mk
      iterate 2 refine Z ?_
      refine jkm (by omega) ?_
      exact rfl
      apply exP.mk
      refine gm (by omega) ?_
      exact rfl
      apply exP.mk
      refine nw (by omega) (by omega) ?_
      exact rfl
      apply exP.mk
      refine Z ?_
      exact rfl
      apply exP.mk
      exact rfl
      apply exP.mk
      refine nw (by omega) (by omega) ?_
      exact rfl
      apply exP.mk
      refine Z ?_
      exact rfl
      apply exP.mk
      exact rfl
      apply exP.mk
      refine And.intro (by omega) ?_; refine ntm (by omega) ?_
      exact rfl
      refine callW.mk [] 4 _ _ _ ((putNew_c n ((l.take k).map (miF n)) ((n - 1 - l[k] + n) % n) hx (by omega) hnew)) rfl rfl okk nofun ?_; refine Z ?_
      apply exP.mk
      refine Z ?_
      exact rfl
      iterate 5 refine Z ?_
      refine nw (by omega) (by omega) ?_; rotate_left; refine hR (k + 1) _ _ ?_ ?_; rotate_left; refine weak.mk [] [0, 1, 2, 4] rfl rfl ?_ ?_
      repeat' first | exact trivial | exact rfl | exact Iff.rfl | assumption | exact pureI | exact (show _ = _ by omega) | exact (show _ ≤ _ by omega) | exact (show _ < _ by omega) | exact (show ¬ _ by omega) | refine And.intro ?_ ?_
      rotate_right
      · exact ⟨by omega, by omega⟩
      · exact map_congr (by rw [miF_eq hkl2]; exact img_next hkl)
    · refine Z ?_
      refine lm ?_; refine tN okn ?_; iterate 4 refine Z ?_
      rotate_left; refine doneV.mk [] [3] rfl rfl ?_ ?_ ?_
      repeat' first | exact trivial | exact rfl | exact Iff.rfl | assumption | exact pureI | exact (show _ = _ by omega) | exact (show _ ≤ _ by omega) | exact (show _ < _ by omega) | exact (show ¬ _ by omega) | refine And.intro ?_ ?_
      exact map_congr (by rw [List.take_of_length_le (by omega)]; rfl)
end Sx
