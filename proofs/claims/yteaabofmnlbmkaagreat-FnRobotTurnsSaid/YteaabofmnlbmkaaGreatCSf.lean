/- Contracts: the law of the forms that are found. -/
import Derived.Test.YteaabofmnlbmkaaGreatSyC
import Derived.Test.YteaabofmnlbmkaaGreatCSc
import Derived.Test.YteaabofmnlbmkaaGreatCRc
import Derived.Test.YteaabofmnlbmkaaGreatCRd
import Derived.Test.YteaabofmnlbmkaaGreatCRu
import Derived.Test.YteaabofmnlbmkaaGreatMxA
set_option linter.all false
namespace Sx
open Go Go.Proofs
set_option maxRecDepth 100000
set_option maxHeartbeats 8000000
set_option linter.unusedSimpArgs false
set_option linter.unusedSectionVars false
variable [Glb]
theorem sameT_c (n : Int) (a b : List Int) (ha : a.length ≤ 1099511627776) (hb : b.length ≤ 1099511627776) : C 79 [.agg [i64 n, ints a], .agg [i64 n, ints b]] [] (pr (a = b)) [] false := by
  refine mkC false false Tryz.func79 rfl ?_; refine And.intro nofun ?_; iterate 4 refine Z ?_
  refine tY oky ?_; iterate 2 refine Z ?_
  refine callW.mk [] 2 _ _ _ (Equal_c _ _ oka oka) rfl rfl trivial nofun ?_; rotate_left; refine doneV.mk [] [] rfl rfl ?_ ?_ ?_
  repeat' first | exact trivial | exact rfl | exact Iff.rfl | assumption | exact pureI | exact (show _ = _ by omega) | exact (show _ ≤ _ by omega) | exact (show _ < _ by omega) | exact (show ¬ _ by omega) | refine And.intro ?_ ?_
theorem IndexFuncC_c (n : Int) (L : List (List Int)) (v : List Int) (hL : L.length ≤ 1099511627776) (he : ∀ x ∈ L, x.length ≤ 1099511627776) (hv : v.length ≤ 1099511627776) : C 107 [.sl 2 (L.map (crw n)), .fn (.func 79) [.agg [i64 n, ints v]] []] [] (i64 (fIx (fun x => v = x) L)) [] false := by
  refine mkC false false Tryz.func107 rfl ?_; refine And.intro nofun ?_; refine lm ?_; rotate_left; refine loop_up (β := Nat) (fun k => [(8, i64 k), (4, .unk)]) (fun k => []) [] (fun k => k ≤ L.length ∧ ∀ l ∈ L.take k, ¬ v = l) (fun k => L.length - k) (0) ?_ ?_ ?_
  · simp
  · refine weak.mk [] [] rfl rfl ?_ ?_
    repeat' first | exact trivial | exact rfl | exact Iff.rfl | assumption | exact pureI | exact (show _ = _ by omega) | exact (show _ ≤ _ by omega) | exact (show _ < _ by omega) | exact (show ¬ _ by omega) | refine And.intro ?_ ?_
  · rintro k ⟨hk, hi⟩ R hR
    by_cases hkl : k < L.length
    · have e1 := he _ (List.getElem_mem hkl)
      refine tY oky ?_; iterate 2 refine Z ?_
      refine jkm (by omega) ?_; refine gm (by omega) ?_; refine callW.mk [] 0 _ _ _ (sameT_c _ _ _ (by first | omega | assumption | (simp; omega) | (simp; done) | exact trivial | exact he _ (List.getElem_mem _) | exact hi _ (List.getElem_mem _)) (by first | omega | assumption | (simp; omega) | (simp; done) | exact trivial | exact he _ (List.getElem_mem _) | exact hi _ (List.getElem_mem _))) rfl rfl trivial nofun ?_; refine twoP.mk (fun _ => ?_) (fun _ => ?_); rotate_left; refine nw (by omega) (by omega) ?_; rotate_left
      · rename_i h3
        rw [fIx_here (p := fun x => v = x) (by omega) hi h3]
        refine doneV.mk [] [] rfl rfl ?_ ?_ ?_
        repeat' first | exact trivial | exact rfl | exact Iff.rfl | assumption | exact pureI | exact (show _ = _ by omega) | exact (show _ ≤ _ by omega) | exact (show _ < _ by omega) | exact (show ¬ _ by omega) | refine And.intro ?_ ?_
      · rename_i h3
        refine hR (k + 1) _ _ ?_ ?_; rotate_left; refine weak.mk [] [] rfl rfl ?_ ?_
        repeat' first | exact trivial | exact rfl | exact Iff.rfl | assumption | exact pureI | exact (show _ = _ by omega) | exact (show _ ≤ _ by omega) | exact (show _ < _ by omega) | exact (show ¬ _ by omega) | refine And.intro ?_ ?_
        rotate_right
        exact ⟨⟨by omega, (all_take (P := fun x => ¬ v = x) (by omega)).2 ⟨hi, h3⟩⟩, by omega⟩
    · rw [List.take_of_length_le (by omega)] at hi
      rw [fIx_no (p := fun x => v = x) hi]
      refine tN okn ?_; rotate_left; refine doneV.mk [] [] rfl rfl ?_ ?_ ?_
      repeat' first | exact trivial | exact rfl | exact Iff.rfl | assumption | exact pureI | exact (show _ = _ by omega) | exact (show _ ≤ _ by omega) | exact (show _ < _ by omega) | exact (show ¬ _ by omega) | refine And.intro ?_ ?_
theorem ContainsFuncC_c (n : Int) (L : List (List Int)) (v : List Int) (hL : L.length ≤ 1099511627776) (he : ∀ x ∈ L, x.length ≤ 1099511627776) (hv : v.length ≤ 1099511627776) : C 77 [.sl 2 (L.map (crw n)), .fn (.func 79) [.agg [i64 n, ints v]] []] [] (pr (v ∈ L)) [] false := by
  refine mkC false false Tryz.func77 rfl ?_; refine And.intro nofun ?_; refine callW.mk [] 0 _ _ _ (IndexFuncC_c _ _ _ (by first | omega | assumption | (simp; omega) | (simp; done) | exact trivial | exact he _ (List.getElem_mem _)) (by first | omega | assumption | (simp; omega) | (simp; done) | exact trivial | exact he _ (List.getElem_mem _)) (by first | omega | assumption | (simp; omega) | (simp; done) | exact trivial | exact he _ (List.getElem_mem _))) rfl rfl trivial nofun ?_; rotate_left; refine doneV.mk [] [] rfl rfl ?_ ?_ ?_
  repeat' first | exact trivial | exact rfl | exact Iff.rfl | assumption | exact pureI | exact (show _ = _ by omega) | exact (show _ ≤ _ by omega) | exact (show _ < _ by omega) | exact (show ¬ _ by omega) | refine And.intro ?_ ?_
  exact Iff.trans (fIx_ge (fun x => v = x) L) (Iff.intro (fun ⟨x, h1, h2⟩ => h2 ▸ h1) (fun h => ⟨v, h, rfl⟩))
theorem FoundForms_c (n : Int) (l r : List Int) (hl : l.length ≤ 1099511627776) (hrl : r.length ≤ 1099511627776) : C 36 [.agg [i64 n, ints l], ints r] [] (.tuple [i64 (foR n l r), pr (crowd n l ∧ isRule r)]) [] false := by
  refine mkC false true Tryz.func36 rfl ?_; refine And.intro (fun _ => rfl) ?_
  by_cases hc : crowd n l
  · by_cases hr : isRule r
    · have hl2 := hc.1.2
      rw [fo_yes ⟨hc, hr⟩]
      refine Z ?_; refine callW.mk [] 1 _ _ _ (IsCrowd_c _ _ oka) rfl rfl trivial nofun ?_; refine tN okn ?_; refine callW.mk [] 1 _ _ _ (IsRobotRule_c _ oka) rfl rfl trivial nofun ?_; refine tN okn ?_; iterate 2 refine Z ?_
      rotate_left; refine loop_up (β := Nat) (fun k => [(6, .loc 1)]) (fun k => [(0, .row .var 2 [.agg [i64 n, ints (runL n l r k)]]), (1, .row .plain 2 ((fS n l r k).map (crw n)))]) [2] (fun k => fresh (fK n l r) k) (fun k => 5000 - k) (0) ?_ ?_ ?_
      · exact fresh_0 _
      · refine weak.mk [2] [0, 1] rfl rfl ?_ ?_
        repeat' first | exact trivial | exact rfl | exact Iff.rfl | assumption | exact pureI | exact (show _ = _ by omega) | exact (show _ ≤ _ by omega) | exact (show _ < _ by omega) | exact (show ¬ _ by omega) | refine And.intro ?_ ?_
      · rintro k hfr R hR
        have hk := fresh_le hc hfr
        obtain ⟨hcK, hlK⟩ := run_crowd (r := r) hc k
        have hfl : (formR n (runL n l r k)).length = l.length := (fK_crowd (r := r) hc k).2
        have hsl := fS_len n l r k
        have hfi : ∀ x ∈ fS n l r k, x.length ≤ 1099511627776 := fun x hx => by rw [fS_in hc k x hx]; omega
        have hfe : fS n l r (k + 1) = fS n l r k ++ [formR n (runL n l r k)] := fS_succ n l r k
        by_cases hm : formR n (runL n l r k) ∈ fS n l r k
        · have hN := foN_stop hc hfr hm
          rw [hN]
          refine callW.mk [] 2 _ _ _ (form_c _ _ (by first | omega | assumption | (simp; omega) | (simp; done) | exact trivial | exact hfi _ (List.getElem_mem _))) rfl rfl trivial nofun ?_; refine And.intro trivial ?_; refine callW.mk [] 3 _ _ _ (ContainsFuncC_c _ _ _ (by first | omega | assumption | (simp; omega) | (simp; done) | exact trivial | exact hfi _ (List.getElem_mem _)) (by first | omega | assumption | (simp; omega) | (simp; done) | exact trivial | exact hfi _ (List.getElem_mem _)) (by first | omega | assumption | (simp; omega) | (simp; done) | exact trivial | exact hfi _ (List.getElem_mem _))) rfl rfl trivial nofun ?_; refine tN okn ?_; refine lm ?_; rotate_left
          rw [fS_len]
          refine doneV.mk [] [] rfl rfl ?_ ?_ ?_
          repeat' first | exact trivial | exact rfl | exact Iff.rfl | assumption | exact pureI | exact (show _ = _ by omega) | exact (show _ ≤ _ by omega) | exact (show _ < _ by omega) | exact (show ¬ _ by omega) | refine And.intro ?_ ?_
          all_goals exact ⟨hc, hr⟩
        · have hf2 := fresh_next hfr hm
          by_cases hs : stepOk n (runL n l r k) r
          · have hy := run_yes hs
            have hst := st_yes hs
            refine callW.mk [] 2 _ _ _ (form_c _ _ (by first | omega | assumption | (simp; omega) | (simp; done) | exact trivial | exact hfi _ (List.getElem_mem _))) rfl rfl trivial nofun ?_; refine And.intro trivial ?_; refine callW.mk [] 3 _ _ _ (ContainsFuncC_c _ _ _ (by first | omega | assumption | (simp; omega) | (simp; done) | exact trivial | exact hfi _ (List.getElem_mem _)) (by first | omega | assumption | (simp; omega) | (simp; done) | exact trivial | exact hfi _ (List.getElem_mem _)) (by first | omega | assumption | (simp; omega) | (simp; done) | exact trivial | exact hfi _ (List.getElem_mem _))) rfl rfl trivial nofun ?_; refine tY oky ?_; refine callW.mk [] 3 _ _ _ (form_c _ _ (by first | omega | assumption | (simp; omega) | (simp; done) | exact trivial | exact hfi _ (List.getElem_mem _))) rfl rfl trivial nofun ?_; iterate 5 refine Z ?_
            refine And.intro trivial ?_; iterate 5 refine Z ?_
            refine lem1 (by omega) ?_; refine ea ?_; refine callW.mk [] 6 _ _ _ (step_c _ _ _ (by first | omega | assumption | (simp; omega) | (simp; done) | exact trivial | exact hfi _ (List.getElem_mem _)) (by first | omega | assumption | (simp; omega) | (simp; done) | exact trivial | exact hfi _ (List.getElem_mem _))) rfl rfl trivial nofun ?_; iterate 5 refine Z ?_
            refine tN okn ?_; iterate 4 refine Z ?_
            rotate_left
            rw [hst.1, hst.2]
            refine hR (k + 1) _ _ ⟨hf2, by omega⟩ (weak.fz [] [0, 5] rfl rfl rfl trivial ?_ ?_)
            all_goals repeat' first | refine And.intro ?_ ?_ | exact trivial | exact rfl | exact Iff.rfl | assumption
            · rw [hy.1]
            · rw [hfe]
          · have hN := foN_stop hc hf2 (fK_stuck hs)
            rw [hN]
            refine callW.mk [] 2 _ _ _ (form_c _ _ (by first | omega | assumption | (simp; omega) | (simp; done) | exact trivial | exact hfi _ (List.getElem_mem _))) rfl rfl trivial nofun ?_; refine And.intro trivial ?_; refine callW.mk [] 3 _ _ _ (ContainsFuncC_c _ _ _ (by first | omega | assumption | (simp; omega) | (simp; done) | exact trivial | exact hfi _ (List.getElem_mem _)) (by first | omega | assumption | (simp; omega) | (simp; done) | exact trivial | exact hfi _ (List.getElem_mem _)) (by first | omega | assumption | (simp; omega) | (simp; done) | exact trivial | exact hfi _ (List.getElem_mem _))) rfl rfl trivial nofun ?_; refine tY oky ?_; refine callW.mk [] 3 _ _ _ (form_c _ _ (by first | omega | assumption | (simp; omega) | (simp; done) | exact trivial | exact hfi _ (List.getElem_mem _))) rfl rfl trivial nofun ?_; iterate 5 refine Z ?_
            refine And.intro trivial ?_; iterate 5 refine Z ?_
            refine lem1 (by omega) ?_; refine ea ?_; refine callW.mk [] 6 _ _ _ (step_c _ _ _ (by first | omega | assumption | (simp; omega) | (simp; done) | exact trivial | exact hfi _ (List.getElem_mem _)) (by first | omega | assumption | (simp; omega) | (simp; done) | exact trivial | exact hfi _ (List.getElem_mem _))) rfl rfl trivial nofun ?_; iterate 5 refine Z ?_
            refine tY oky ?_; refine lm ?_; rotate_left
            rw [← hfe, fS_len]
            refine doneV.mk [] [] rfl rfl ?_ ?_ ?_
            repeat' first | exact trivial | exact rfl | exact Iff.rfl | assumption | exact pureI | exact (show _ = _ by omega) | exact (show _ ≤ _ by omega) | exact (show _ < _ by omega) | exact (show ¬ _ by omega) | refine And.intro ?_ ?_
            all_goals exact ⟨hc, hr⟩
    · have hno : ¬ (crowd n l ∧ isRule r) := fun x => hr x.2
      rw [fo_no hno]
      refine Z ?_; refine callW.mk [] 1 _ _ _ (IsCrowd_c _ _ oka) rfl rfl trivial nofun ?_; refine tN okn ?_; refine callW.mk [] 1 _ _ _ (IsRobotRule_c _ oka) rfl rfl trivial nofun ?_; refine tY oky ?_; rotate_left; refine doneV.mk [] [] rfl rfl ?_ ?_ ?_
      repeat' first | exact trivial | exact rfl | exact Iff.rfl | assumption | exact pureI | exact (show _ = _ by omega) | exact (show _ ≤ _ by omega) | exact (show _ < _ by omega) | exact (show ¬ _ by omega) | refine And.intro ?_ ?_
      all_goals exact hno
  · have hno : ¬ (crowd n l ∧ isRule r) := fun x => hc x.1
    rw [fo_no hno]
    refine Z ?_; refine callW.mk [] 1 _ _ _ (IsCrowd_c _ _ oka) rfl rfl trivial nofun ?_; refine tY oky ?_; rotate_left; refine doneV.mk [] [] rfl rfl ?_ ?_ ?_
    repeat' first | exact trivial | exact rfl | exact Iff.rfl | assumption | exact pureI | exact (show _ = _ by omega) | exact (show _ ≤ _ by omega) | exact (show _ < _ by omega) | exact (show ¬ _ by omega) | refine And.intro ?_ ?_
    all_goals exact hno
theorem sFoundForms_c (n : Int) (l r : List Int) (hl : l.length ≤ 1099511627776) (hrl : r.length ≤ 1099511627776) : C 37 [.agg [i64 n, ints l], ints r] [] (.tuple [i64 (foR n l r), pr (crowd n l ∧ isRule r)]) [] false := by
  refine mkC false true Tryz.func37 rfl ?_; refine And.intro (fun _ => rfl) ?_
  by_cases hc : crowd n l
  · by_cases hr : isRule r
    · have hl2 := hc.1.2
      rw [fo_yes ⟨hc, hr⟩]
      refine Z ?_; refine callW.mk [] 1 _ _ _ (l10Crowd_c _ _ oka) rfl rfl trivial nofun ?_; refine tN okn ?_; refine callW.mk [] 1 _ _ _ (l10Rule_c _ oka) rfl rfl trivial nofun ?_; refine tN okn ?_; refine drawP.mkS (Z (Z ?_)); refine Z ?_
      apply exP.mk
      exact rfl
      apply exP.mk
      exact rfl
      refine BothP.mk ?_ ?_; refine callW.mk [] 1 _ _ _ (l10Form_c _ _ oka) rfl rfl trivial nofun ?_; refine Z ?_
      apply exP.mk
      exact rfl
      refine Z ?_; refine BothP.mk ?_ ?_; iterate 5 refine Z ?_
      refine And.intro trivial ?_; iterate 5 refine Z ?_
      apply exP.mk
      exact rfl
      iterate 5 refine Z ?_
      rotate_left; iterate 9 refine Z ?_
      refine And.intro trivial ?_; iterate 2 refine Z ?_
      apply exP.mk
      exact rfl
      iterate 5 refine Z ?_
      rotate_left; iterate 4 refine Z ?_
      refine callW.mk [] 2 _ _ _ (l10Form_c _ _ oka) rfl rfl trivial nofun ?_; refine Z ?_
      apply exP.mk
      exact rfl
      iterate 6 refine Z ?_
      refine And.intro trivial ?_; iterate 2 refine Z ?_
      apply exP.mk
      exact rfl
      iterate 5 refine Z ?_
      rotate_left
      · refine loop_up (β := Nat) (fun k => [(6, .loc 2), (21, .unk), (22, .unk), (23, .unk), (4, .unk), (5, .unk)]) (fun k => [(2, rowI (fS n l r (k + 1))), (3, .row .var 2 [.agg [i64 n, ints (runL n l r k)]])]) [] (fun k => fresh (fK n l r) (k + 1)) (fun k => 5000 - k) (0) ?_ ?_ ?_
        · exact fresh_next (fresh_0 _) (fun h => by cases h)
        · refine weak.mk [] [0, 55, 2, 3] rfl rfl ?_ ?_
          repeat' first | exact trivial | exact rfl | exact Iff.rfl | assumption | exact pureI | exact (show _ = _ by omega) | exact (show _ ≤ _ by omega) | exact (show _ < _ by omega) | exact (show ¬ _ by omega) | refine And.intro ?_ ?_
        · rintro k hfr R hR
          have hk := fresh_le hc hfr
          obtain ⟨hcK, hlK⟩ := run_crowd (r := r) hc k
          have hfl := (fK_crowd (r := r) hc (k + 1)).2
          have hsl := fS_len n l r (k + 1)
          have hfi : ∀ x ∈ fS n l r (k + 1), x.length ≤ 1099511627776 := fun x hx => by rw [fS_in hc (k + 1) x hx]; omega
          by_cases hs : stepOk n (runL n l r k) r
          · have hy := run_yes hs
            have hst := st_yes hs
            have hcN := step_crowd hcK hs
            have hfe : formR n (srt n (tgts n (runL n l r k) r (runL n l r k).length)) = fK n l r (k + 1) := by unfold fK; rw [hy.1]
            have hq := l10Step_c n (runL n l r k) r hcK hr
            rw [hst.1, hst.2] at hq
            have hq2 := l10Form_c n _ hcN.1
            rw [hfe] at hq2
            refine callW.mk [] 4 _ _ _ (hq) rfl rfl okk nofun ?_; iterate 5 refine Z ?_
            refine tN okn ?_; refine callW.mk [] 6 _ _ _ (hq2) rfl rfl okk nofun ?_; rotate_left; refine loop_up (β := Nat) (fun j => [(11, i64 j), (4, .unk), (5, .unk)]) (fun j => []) [] (fun j => j ≤ k + 1 ∧ ∀ y ∈ (fS n l r (k + 1)).take j, ¬ y = fK n l r (k + 1)) (fun j => k + 1 - j) (0) ?_ ?_ ?_
            · exact ⟨Nat.zero_le _, fun y h => by cases h⟩
            · refine weak.mk [] [0, 58, 2, 3, 4, 5, 6] rfl rfl ?_ ?_
              repeat' first | exact trivial | exact rfl | exact Iff.rfl | assumption | exact pureI | exact (show _ = _ by omega) | exact (show _ ≤ _ by omega) | exact (show _ < _ by omega) | exact (show ¬ _ by omega) | refine And.intro ?_ ?_
            · rintro j ⟨hj, hne⟩ R2 hR2
              by_cases hjk : j < k + 1
              · have hjl : j < (fS n l r (k + 1)).length := by omega
                have e1 := hfi _ (List.getElem_mem hjl)
                by_cases c : (fS n l r (k + 1))[j] = fK n l r (k + 1)
                · have hm : fK n l r (k + 1) ∈ fS n l r (k + 1) := by rw [← c]; exact List.getElem_mem _
                  rw [foN_stop hc hfr hm]
                  refine lm ?_; refine tY oky ?_; iterate 2 refine Z ?_
                  refine jkm (by omega) ?_; refine gmv (by omega) c ?_; refine callW.mk [] 7 _ _ _ (l1Same_c _ _ (by first | omega | assumption | (simp; omega) | (simp; done) | exact trivial | exact hfi _ (List.getElem_mem _) | exact hne _ (List.getElem_mem _)) (by first | omega | assumption | (simp; omega) | (simp; done) | exact trivial | exact hfi _ (List.getElem_mem _) | exact hne _ (List.getElem_mem _))) rfl rfl trivial nofun ?_; refine tY oky ?_; refine lm ?_; rotate_left
                  rw [fS_len]
                  refine doneV.mk [] [] rfl rfl ?_ ?_ ?_
                  repeat' first | exact trivial | exact rfl | exact Iff.rfl | assumption | exact pureI | exact (show _ = _ by omega) | exact (show _ ≤ _ by omega) | exact (show _ < _ by omega) | exact (show ¬ _ by omega) | refine And.intro ?_ ?_
                  all_goals exact ⟨hc, hr⟩
                · refine lm ?_
                  refine tY oky ?_; iterate 2 refine Z ?_
                  refine jkm (by omega) ?_; refine gm (by omega) ?_; refine callW.mk [] 7 _ _ _ (l1Same_c _ _ (by first | omega | assumption | (simp; omega) | (simp; done) | exact trivial | exact hfi _ (List.getElem_mem _) | exact hne _ (List.getElem_mem _)) (by first | omega | assumption | (simp; omega) | (simp; done) | exact trivial | exact hfi _ (List.getElem_mem _) | exact hne _ (List.getElem_mem _))) rfl rfl trivial nofun ?_; refine tN okn ?_; refine nw (by omega) (by omega) ?_; rotate_left; refine hR2 (j + 1) _ _ ?_ ?_; rotate_left; refine weak.mk [] [0, 58, 2, 3, 4, 5, 6] rfl rfl ?_ ?_
                  repeat' first | exact trivial | exact rfl | exact Iff.rfl | assumption | exact pureI | exact (show _ = _ by omega) | exact (show _ ≤ _ by omega) | exact (show _ < _ by omega) | exact (show ¬ _ by omega) | refine And.intro ?_ ?_
                  rotate_right
                  exact ⟨⟨by omega, (all_take (P := fun y => ¬ y = fK n l r (k + 1)) hjl).2 ⟨hne, c⟩⟩, by omega⟩
              · have hnm : fK n l r (k + 1) ∉ fS n l r (k + 1) := fun h => by
                  rw [List.take_of_length_le (by omega)] at hne
                  exact hne _ h rfl
                have hf2 := fresh_next hfr hnm
                have hfs : fS n l r (k + 1 + 1) = fS n l r (k + 1) ++ [fK n l r (k + 1)] := fS_succ n l r (k + 1)
                refine lm ?_; refine tN okn ?_; iterate 5 refine Z ?_
                refine And.intro trivial ?_; iterate 5 refine Z ?_
                refine lem1 (by omega) ?_; refine ea ?_; iterate 4 refine Z ?_
                rotate_left; refine hR (k + 1) _ _ ⟨hf2, by show 5000 - (k + 1) < 5000 - k; omega⟩ (weak.fz [] [0, 55, 8, 3] rfl rfl rfl trivial ?_ ?_)
                all_goals repeat' first | refine And.intro ?_ ?_ | exact trivial | exact rfl | exact Iff.rfl | assumption
                all_goals first | exact congrArg (List.map ints) hfs.symm | exact congrArg (List.map i64) hy.1.symm
          · have hN := foN_stop hc hfr (fK_stuck hs)
            rw [hN]
            refine callW.mk [] 4 _ _ _ (l10Step_c _ _ _ (by first | omega | assumption | (simp; omega) | (simp; done) | exact trivial | exact hfi _ (List.getElem_mem _)) (by first | omega | assumption | (simp; omega) | (simp; done) | exact trivial | exact hfi _ (List.getElem_mem _))) rfl rfl trivial nofun ?_; iterate 5 refine Z ?_
            refine tY oky ?_; refine lm ?_; rotate_left
            rw [fS_len]
            refine doneV.mk [] [] rfl rfl ?_ ?_ ?_
            repeat' first | exact trivial | exact rfl | exact Iff.rfl | assumption | exact pureI | exact (show _ = _ by omega) | exact (show _ ≤ _ by omega) | exact (show _ < _ by omega) | exact (show ¬ _ by omega) | refine And.intro ?_ ?_
            all_goals exact ⟨hc, hr⟩
      · refine loop_up (β := Nat) (fun k => [(6, .loc 3), (21, .unk), (22, .unk), (23, .unk), (4, .unk), (5, .unk)]) (fun k => [(3, rowI (fS n l r (k + 1))), (2, .row .var 2 [.agg [i64 n, ints (runL n l r k)]])]) [] (fun k => fresh (fK n l r) (k + 1)) (fun k => 5000 - k) (0) ?_ ?_ ?_
        · exact fresh_next (fresh_0 _) (fun h => by cases h)
        · refine weak.mk [] [0, 55, 2, 3] rfl rfl ?_ ?_
          repeat' first | exact trivial | exact rfl | exact Iff.rfl | assumption | exact pureI | exact (show _ = _ by omega) | exact (show _ ≤ _ by omega) | exact (show _ < _ by omega) | exact (show ¬ _ by omega) | refine And.intro ?_ ?_
        · rintro k hfr R hR
          have hk := fresh_le hc hfr
          obtain ⟨hcK, hlK⟩ := run_crowd (r := r) hc k
          have hfl := (fK_crowd (r := r) hc (k + 1)).2
          have hsl := fS_len n l r (k + 1)
          have hfi : ∀ x ∈ fS n l r (k + 1), x.length ≤ 1099511627776 := fun x hx => by rw [fS_in hc (k + 1) x hx]; omega
          by_cases hs : stepOk n (runL n l r k) r
          · have hy := run_yes hs
            have hst := st_yes hs
            have hcN := step_crowd hcK hs
            have hfe : formR n (srt n (tgts n (runL n l r k) r (runL n l r k).length)) = fK n l r (k + 1) := by unfold fK; rw [hy.1]
            have hq := l10Step_c n (runL n l r k) r hcK hr
            rw [hst.1, hst.2] at hq
            have hq2 := l10Form_c n _ hcN.1
            rw [hfe] at hq2
            refine callW.mk [] 4 _ _ _ (hq) rfl rfl okk nofun ?_; iterate 5 refine Z ?_
            refine tN okn ?_; refine callW.mk [] 6 _ _ _ (hq2) rfl rfl okk nofun ?_; rotate_left; refine loop_up (β := Nat) (fun j => [(11, i64 j), (4, .unk), (5, .unk)]) (fun j => []) [] (fun j => j ≤ k + 1 ∧ ∀ y ∈ (fS n l r (k + 1)).take j, ¬ y = fK n l r (k + 1)) (fun j => k + 1 - j) (0) ?_ ?_ ?_
            · exact ⟨Nat.zero_le _, fun y h => by cases h⟩
            · refine weak.mk [] [0, 58, 2, 3, 4, 5, 6] rfl rfl ?_ ?_
              repeat' first | exact trivial | exact rfl | exact Iff.rfl | assumption | exact pureI | exact (show _ = _ by omega) | exact (show _ ≤ _ by omega) | exact (show _ < _ by omega) | exact (show ¬ _ by omega) | refine And.intro ?_ ?_
            · rintro j ⟨hj, hne⟩ R2 hR2
              by_cases hjk : j < k + 1
              · have hjl : j < (fS n l r (k + 1)).length := by omega
                have e1 := hfi _ (List.getElem_mem hjl)
                by_cases c : (fS n l r (k + 1))[j] = fK n l r (k + 1)
                · have hm : fK n l r (k + 1) ∈ fS n l r (k + 1) := by rw [← c]; exact List.getElem_mem _
                  rw [foN_stop hc hfr hm]
                  refine lm ?_; refine tY oky ?_; iterate 2 refine Z ?_
                  refine jkm (by omega) ?_; refine gmv (by omega) c ?_; refine callW.mk [] 7 _ _ _ (l1Same_c _ _ (by first | omega | assumption | (simp; omega) | (simp; done) | exact trivial | exact hfi _ (List.getElem_mem _) | exact hne _ (List.getElem_mem _)) (by first | omega | assumption | (simp; omega) | (simp; done) | exact trivial | exact hfi _ (List.getElem_mem _) | exact hne _ (List.getElem_mem _))) rfl rfl trivial nofun ?_; refine tY oky ?_; refine lm ?_; rotate_left
                  rw [fS_len]
                  refine doneV.mk [] [] rfl rfl ?_ ?_ ?_
                  repeat' first | exact trivial | exact rfl | exact Iff.rfl | assumption | exact pureI | exact (show _ = _ by omega) | exact (show _ ≤ _ by omega) | exact (show _ < _ by omega) | exact (show ¬ _ by omega) | refine And.intro ?_ ?_
                  all_goals exact ⟨hc, hr⟩
                · refine lm ?_
                  refine tY oky ?_; iterate 2 refine Z ?_
                  refine jkm (by omega) ?_; refine gm (by omega) ?_; refine callW.mk [] 7 _ _ _ (l1Same_c _ _ (by first | omega | assumption | (simp; omega) | (simp; done) | exact trivial | exact hfi _ (List.getElem_mem _) | exact hne _ (List.getElem_mem _)) (by first | omega | assumption | (simp; omega) | (simp; done) | exact trivial | exact hfi _ (List.getElem_mem _) | exact hne _ (List.getElem_mem _))) rfl rfl trivial nofun ?_; refine tN okn ?_; refine nw (by omega) (by omega) ?_; rotate_left; refine hR2 (j + 1) _ _ ?_ ?_; rotate_left; refine weak.mk [] [0, 58, 2, 3, 4, 5, 6] rfl rfl ?_ ?_
                  repeat' first | exact trivial | exact rfl | exact Iff.rfl | assumption | exact pureI | exact (show _ = _ by omega) | exact (show _ ≤ _ by omega) | exact (show _ < _ by omega) | exact (show ¬ _ by omega) | refine And.intro ?_ ?_
                  rotate_right
                  exact ⟨⟨by omega, (all_take (P := fun y => ¬ y = fK n l r (k + 1)) hjl).2 ⟨hne, c⟩⟩, by omega⟩
              · have hnm : fK n l r (k + 1) ∉ fS n l r (k + 1) := fun h => by
                  rw [List.take_of_length_le (by omega)] at hne
                  exact hne _ h rfl
                have hf2 := fresh_next hfr hnm
                have hfs : fS n l r (k + 1 + 1) = fS n l r (k + 1) ++ [fK n l r (k + 1)] := fS_succ n l r (k + 1)
                refine lm ?_; refine tN okn ?_; iterate 5 refine Z ?_
                refine And.intro trivial ?_; iterate 5 refine Z ?_
                refine lem1 (by omega) ?_; refine ea ?_; iterate 4 refine Z ?_
                rotate_left; refine hR (k + 1) _ _ ⟨hf2, by show 5000 - (k + 1) < 5000 - k; omega⟩ (weak.fz [] [0, 55, 2, 8] rfl rfl rfl trivial ?_ ?_)
                all_goals repeat' first | refine And.intro ?_ ?_ | exact trivial | exact rfl | exact Iff.rfl | assumption
                all_goals first | exact congrArg (List.map ints) hfs.symm | exact congrArg (List.map i64) hy.1.symm
          · have hN := foN_stop hc hfr (fK_stuck hs)
            rw [hN]
            refine callW.mk [] 4 _ _ _ (l10Step_c _ _ _ (by first | omega | assumption | (simp; omega) | (simp; done) | exact trivial | exact hfi _ (List.getElem_mem _)) (by first | omega | assumption | (simp; omega) | (simp; done) | exact trivial | exact hfi _ (List.getElem_mem _))) rfl rfl trivial nofun ?_; iterate 5 refine Z ?_
            refine tY oky ?_; refine lm ?_; rotate_left
            rw [fS_len]
            refine doneV.mk [] [] rfl rfl ?_ ?_ ?_
            repeat' first | exact trivial | exact rfl | exact Iff.rfl | assumption | exact pureI | exact (show _ = _ by omega) | exact (show _ ≤ _ by omega) | exact (show _ < _ by omega) | exact (show ¬ _ by omega) | refine And.intro ?_ ?_
            all_goals exact ⟨hc, hr⟩
      · refine loop_up (β := Nat) (fun k => [(6, .loc 3), (21, .unk), (22, .unk), (23, .unk), (4, .unk), (5, .unk)]) (fun k => [(3, rowI (fS n l r (k + 1))), (1, .row .var 2 [.agg [i64 n, ints (runL n l r k)]])]) [] (fun k => fresh (fK n l r) (k + 1)) (fun k => 5000 - k) (0) ?_ ?_ ?_
        · exact fresh_next (fresh_0 _) (fun h => by cases h)
        · refine weak.mk [] [0, 1, 56, 3] rfl rfl ?_ ?_
          repeat' first | exact trivial | exact rfl | exact Iff.rfl | assumption | exact pureI | exact (show _ = _ by omega) | exact (show _ ≤ _ by omega) | exact (show _ < _ by omega) | exact (show ¬ _ by omega) | refine And.intro ?_ ?_
        · rintro k hfr R hR
          have hk := fresh_le hc hfr
          obtain ⟨hcK, hlK⟩ := run_crowd (r := r) hc k
          have hfl := (fK_crowd (r := r) hc (k + 1)).2
          have hsl := fS_len n l r (k + 1)
          have hfi : ∀ x ∈ fS n l r (k + 1), x.length ≤ 1099511627776 := fun x hx => by rw [fS_in hc (k + 1) x hx]; omega
          by_cases hs : stepOk n (runL n l r k) r
          · have hy := run_yes hs
            have hst := st_yes hs
            have hcN := step_crowd hcK hs
            have hfe : formR n (srt n (tgts n (runL n l r k) r (runL n l r k).length)) = fK n l r (k + 1) := by unfold fK; rw [hy.1]
            have hq := l10Step_c n (runL n l r k) r hcK hr
            rw [hst.1, hst.2] at hq
            have hq2 := l10Form_c n _ hcN.1
            rw [hfe] at hq2
            refine callW.mk [] 4 _ _ _ (hq) rfl rfl okk nofun ?_; iterate 5 refine Z ?_
            refine tN okn ?_; refine callW.mk [] 6 _ _ _ (hq2) rfl rfl okk nofun ?_; rotate_left; refine loop_up (β := Nat) (fun j => [(11, i64 j), (4, .unk), (5, .unk)]) (fun j => []) [] (fun j => j ≤ k + 1 ∧ ∀ y ∈ (fS n l r (k + 1)).take j, ¬ y = fK n l r (k + 1)) (fun j => k + 1 - j) (0) ?_ ?_ ?_
            · exact ⟨Nat.zero_le _, fun y h => by cases h⟩
            · refine weak.mk [] [0, 1, 59, 3, 4, 5, 6] rfl rfl ?_ ?_
              repeat' first | exact trivial | exact rfl | exact Iff.rfl | assumption | exact pureI | exact (show _ = _ by omega) | exact (show _ ≤ _ by omega) | exact (show _ < _ by omega) | exact (show ¬ _ by omega) | refine And.intro ?_ ?_
            · rintro j ⟨hj, hne⟩ R2 hR2
              by_cases hjk : j < k + 1
              · have hjl : j < (fS n l r (k + 1)).length := by omega
                have e1 := hfi _ (List.getElem_mem hjl)
                by_cases c : (fS n l r (k + 1))[j] = fK n l r (k + 1)
                · have hm : fK n l r (k + 1) ∈ fS n l r (k + 1) := by rw [← c]; exact List.getElem_mem _
                  rw [foN_stop hc hfr hm]
                  refine lm ?_; refine tY oky ?_; iterate 2 refine Z ?_
                  refine jkm (by omega) ?_; refine gmv (by omega) c ?_; refine callW.mk [] 7 _ _ _ (l1Same_c _ _ (by first | omega | assumption | (simp; omega) | (simp; done) | exact trivial | exact hfi _ (List.getElem_mem _) | exact hne _ (List.getElem_mem _)) (by first | omega | assumption | (simp; omega) | (simp; done) | exact trivial | exact hfi _ (List.getElem_mem _) | exact hne _ (List.getElem_mem _))) rfl rfl trivial nofun ?_; refine tY oky ?_; refine lm ?_; rotate_left
                  rw [fS_len]
                  refine doneV.mk [] [] rfl rfl ?_ ?_ ?_
                  repeat' first | exact trivial | exact rfl | exact Iff.rfl | assumption | exact pureI | exact (show _ = _ by omega) | exact (show _ ≤ _ by omega) | exact (show _ < _ by omega) | exact (show ¬ _ by omega) | refine And.intro ?_ ?_
                  all_goals exact ⟨hc, hr⟩
                · refine lm ?_
                  refine tY oky ?_; iterate 2 refine Z ?_
                  refine jkm (by omega) ?_; refine gm (by omega) ?_; refine callW.mk [] 7 _ _ _ (l1Same_c _ _ (by first | omega | assumption | (simp; omega) | (simp; done) | exact trivial | exact hfi _ (List.getElem_mem _) | exact hne _ (List.getElem_mem _)) (by first | omega | assumption | (simp; omega) | (simp; done) | exact trivial | exact hfi _ (List.getElem_mem _) | exact hne _ (List.getElem_mem _))) rfl rfl trivial nofun ?_; refine tN okn ?_; refine nw (by omega) (by omega) ?_; rotate_left; refine hR2 (j + 1) _ _ ?_ ?_; rotate_left; refine weak.mk [] [0, 1, 59, 3, 4, 5, 6] rfl rfl ?_ ?_
                  repeat' first | exact trivial | exact rfl | exact Iff.rfl | assumption | exact pureI | exact (show _ = _ by omega) | exact (show _ ≤ _ by omega) | exact (show _ < _ by omega) | exact (show ¬ _ by omega) | refine And.intro ?_ ?_
                  rotate_right
                  exact ⟨⟨by omega, (all_take (P := fun y => ¬ y = fK n l r (k + 1)) hjl).2 ⟨hne, c⟩⟩, by omega⟩
              · have hnm : fK n l r (k + 1) ∉ fS n l r (k + 1) := fun h => by
                  rw [List.take_of_length_le (by omega)] at hne
                  exact hne _ h rfl
                have hf2 := fresh_next hfr hnm
                have hfs : fS n l r (k + 1 + 1) = fS n l r (k + 1) ++ [fK n l r (k + 1)] := fS_succ n l r (k + 1)
                refine lm ?_; refine tN okn ?_; iterate 5 refine Z ?_
                refine And.intro trivial ?_; iterate 5 refine Z ?_
                refine lem1 (by omega) ?_; refine ea ?_; iterate 4 refine Z ?_
                rotate_left; refine hR (k + 1) _ _ ⟨hf2, by show 5000 - (k + 1) < 5000 - k; omega⟩ (weak.fz [] [0, 1, 56, 8] rfl rfl rfl trivial ?_ ?_)
                all_goals repeat' first | refine And.intro ?_ ?_ | exact trivial | exact rfl | exact Iff.rfl | assumption
                all_goals first | exact congrArg (List.map ints) hfs.symm | exact congrArg (List.map i64) hy.1.symm
          · have hN := foN_stop hc hfr (fK_stuck hs)
            rw [hN]
            refine callW.mk [] 4 _ _ _ (l10Step_c _ _ _ (by first | omega | assumption | (simp; omega) | (simp; done) | exact trivial | exact hfi _ (List.getElem_mem _)) (by first | omega | assumption | (simp; omega) | (simp; done) | exact trivial | exact hfi _ (List.getElem_mem _))) rfl rfl trivial nofun ?_; iterate 5 refine Z ?_
            refine tY oky ?_; refine lm ?_; rotate_left
            rw [fS_len]
            refine doneV.mk [] [] rfl rfl ?_ ?_ ?_
            repeat' first | exact trivial | exact rfl | exact Iff.rfl | assumption | exact pureI | exact (show _ = _ by omega) | exact (show _ ≤ _ by omega) | exact (show _ < _ by omega) | exact (show ¬ _ by omega) | refine And.intro ?_ ?_
            all_goals exact ⟨hc, hr⟩
    · have hno : ¬ (crowd n l ∧ isRule r) := fun x => hr x.2
      rw [fo_no hno]
      refine Z ?_; refine callW.mk [] 1 _ _ _ (l10Crowd_c _ _ oka) rfl rfl trivial nofun ?_; refine tN okn ?_; refine callW.mk [] 1 _ _ _ (l10Rule_c _ oka) rfl rfl trivial nofun ?_; refine tY oky ?_; rotate_left; refine doneV.mk [] [] rfl rfl ?_ ?_ ?_
      repeat' first | exact trivial | exact rfl | exact Iff.rfl | assumption | exact pureI | exact (show _ = _ by omega) | exact (show _ ≤ _ by omega) | exact (show _ < _ by omega) | exact (show ¬ _ by omega) | refine And.intro ?_ ?_
      all_goals exact hno
  · have hno : ¬ (crowd n l ∧ isRule r) := fun x => hc x.1
    rw [fo_no hno]
    refine Z ?_; refine callW.mk [] 1 _ _ _ (l10Crowd_c _ _ oka) rfl rfl trivial nofun ?_; refine tY oky ?_; rotate_left; refine doneV.mk [] [] rfl rfl ?_ ?_ ?_
    repeat' first | exact trivial | exact rfl | exact Iff.rfl | assumption | exact pureI | exact (show _ = _ by omega) | exact (show _ ≤ _ by omega) | exact (show _ < _ by omega) | exact (show ¬ _ by omega) | refine And.intro ?_ ?_
    all_goals exact hno
end Sx
