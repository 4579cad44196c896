/- Contracts: periods, axes. -/
import Derived.Test.YteaabofmnlbmkaaSyC
import Derived.Test.YteaabofmnlbmkaaCRb
import Derived.Test.YteaabofmnlbmkaaCRl
import Derived.Test.YteaabofmnlbmkaaMxA
set_option linter.all false
namespace Sx
open Go Go.Proofs
set_option maxRecDepth 100000
set_option maxHeartbeats 8000000
set_option linter.unusedSimpArgs false
set_option linter.unusedSectionVars false
variable [Glb]
theorem sameP_c (n : Int) (a b : List Int) (ha : a.length ≤ 1099511627776) (hb : b.length ≤ 1099511627776) : C 73 [.agg [i64 n, ints a], .agg [i64 n, ints b]] [] (pr (a = b)) [] false := by
  refine mkC false false Try.func73 rfl ?_; refine And.intro nofun ?_; iterate 4 refine Z ?_
  refine tY oky ?_; iterate 2 refine Z ?_
  refine callW.mk [] 2 _ _ _ (Equal_c _ _ oka oka) rfl rfl trivial nofun ?_; rotate_left; refine doneV.mk [] [] rfl rfl ?_ ?_ ?_
  repeat' first | exact trivial | exact rfl | exact Iff.rfl | assumption | exact pureI | exact (show _ = _ by omega) | exact (show _ ≤ _ by omega) | exact (show _ < _ by omega) | exact (show ¬ _ by omega) | refine And.intro ?_ ?_
theorem period_c (n : Int) (l : List Int) (hc : crowd n l) : C 84 [.agg [i64 n, ints l]] [] (i64 (perI n l)) [] false := by
  have hn := hc.1.1
  have hl := hc.1.2
  refine mkC false false Try.func84 rfl ?_; refine And.intro nofun ?_; refine Z ?_; rotate_left; refine loop_up (β := Nat) (fun s => [(3, i64 s)]) (fun s => []) [] (fun s => (1 ≤ s ∧ (s : Int) ≤ n) ∧ ∀ j : Nat, 1 ≤ j → j < s → ¬ trn n j l = l) (fun s => n.toNat - s) (1) ?_ ?_ ?_
  · exact ⟨⟨Nat.le_refl _, by omega⟩, fun j h1 h2 => by omega⟩
  · refine weak.mk [] [0] rfl rfl ?_ ?_
    repeat' first | exact trivial | exact rfl | exact Iff.rfl | assumption | exact pureI | exact (show _ = _ by omega) | exact (show _ ≤ _ by omega) | exact (show _ < _ by omega) | exact (show ¬ _ by omega) | refine And.intro ?_ ?_
  · rintro s ⟨⟨hs, hs2⟩, hne⟩ R hR
    have htl := (trn_crowd (s := s) hc).2
    have hsm := sameP_c n l (trn n s l) (by omega) (by omega)
    by_cases h : l = trn n s l
    · have hp := perI_here ⟨hs, by omega⟩ hne h.symm
      rw [hp]
      refine drawP.mkS (Z (Z ?_)); refine Z ?_
      apply exP.mk
      exact rfl
      apply exP.mk
      exact rfl
      apply exP.mk
      exact rfl
      refine callW.mk [] 1 _ _ _ (turned_c _ _ _ oka oka) rfl rfl trivial nofun ?_; iterate 2 refine Z ?_
      refine callW.mk [] 2 _ _ _ (hsm) rfl rfl okk nofun ?_; refine Z ?_
      apply exP.mk
      exact rfl
      refine tN okn ?_; rotate_left; refine doneV.mk [] [] rfl rfl ?_ ?_ ?_
      repeat' first | exact trivial | exact rfl | exact Iff.rfl | assumption | exact pureI | exact (show _ = _ by omega) | exact (show _ ≤ _ by omega) | exact (show _ < _ by omega) | exact (show ¬ _ by omega) | refine And.intro ?_ ?_
    · have hsn : (s : Int) ≠ n := fun e => h (by rw [e, trn_n hc])
      refine drawP.mkS (Z (Z ?_)); refine Z ?_
      apply exP.mk
      exact rfl
      apply exP.mk
      exact rfl
      apply exP.mk
      exact rfl
      refine callW.mk [] 1 _ _ _ (turned_c _ _ _ oka oka) rfl rfl trivial nofun ?_; iterate 2 refine Z ?_
      refine callW.mk [] 2 _ _ _ (hsm) rfl rfl okk nofun ?_; refine Z ?_
      apply exP.mk
      exact rfl
      refine tY oky ?_; refine nw (by omega) (by omega) ?_; rotate_left; refine hR (s + 1) _ _ ?_ ?_; rotate_left; refine weak.mk [] [0] rfl rfl ?_ ?_
      repeat' first | exact trivial | exact rfl | exact Iff.rfl | assumption | exact pureI | exact (show _ = _ by omega) | exact (show _ ≤ _ by omega) | exact (show _ < _ by omega) | exact (show ¬ _ by omega) | refine And.intro ?_ ?_
      rotate_right; refine ⟨⟨⟨by omega, by omega⟩, fun j h1 h2 => ?_⟩, by omega⟩
      by_cases e : j = s
      · rw [e]; exact fun x => h x.symm
      · exact hne j h1 (by omega)
theorem axes1_c (p x n : Int) (l : List Int) (hp : 0 ≤ p ∧ p < n) (hx : 0 ≤ x ∧ x < 1000) (hn : 0 < n ∧ n < 1000) : C 109 [i64 p, .pim 1 [i64 x] 0 0, .pim 2 [.agg [i64 n, ints l]] 0 0] [] (i64 (axF n x p)) [] false := by
  refine mkC false false Try.func109 rfl ?_; refine And.intro nofun ?_; refine getP.mk _ rfl ?_; refine nw (by omega) (by omega) ?_; refine Z ?_; refine getP.mk _ rfl ?_; refine nw (by omega) (by omega) ?_; refine Z ?_; refine getP.mk _ rfl ?_; refine And.intro (by omega) ?_; refine ntm (by omega) ?_; rotate_left; refine doneV.mk [] [] rfl rfl ?_ ?_ ?_
  repeat' first | exact trivial | exact rfl | exact Iff.rfl | assumption | exact pureI | exact (show _ = _ by omega) | exact (show _ ≤ _ by omega) | exact (show _ < _ by omega) | exact (show ¬ _ by omega) | refine And.intro ?_ ?_
theorem axes_c (n : Int) (l : List Int) (hc : crowd n l) : C 85 [.agg [i64 n, ints l]] [] (.loc 0) [row (axL n l)] false := by
  have hn := hc.1.1
  have hl := hc.1.2
  refine mkC false false Try.func85 rfl ?_; refine And.intro nofun ?_; iterate 4 refine Z ?_
  rotate_left; refine loop_up (β := Nat) (fun k => [(3, .loc 1), (8, i64 k)]) (fun k => [(1, row (axK n l k))]) [1] (fun k => (k : Int) ≤ n) (fun k => n.toNat - k) (0) ?_ ?_ ?_
  · show (0 : Int) ≤ n; omega
  · refine weak.mk [1] [0, 1] rfl rfl ?_ ?_
    repeat' first | exact trivial | exact rfl | exact Iff.rfl | assumption | exact pureI | exact (show _ = _ by omega) | exact (show _ ≤ _ by omega) | exact (show _ < _ by omega) | exact (show ¬ _ by omega) | refine And.intro ?_ ?_
  · rintro k hk R hR
    have hal : (srt n (l.map (axF n k))).length = l.length := (axm_crowd (x := k) hc).2
    have hsm := sameP_c n l (srt n (l.map (axF n k))) (by omega) (by omega)
    have hml := axK_le n l k
    by_cases hkn : (k : Int) < n
    · by_cases h : l = srt n (l.map (axF n k))
      · have hy := axK_yes h.symm
        have hmv := moved_k2 (axF n k) n l hc (axF_ok hc) (fun x hx => axes1_c x k n l (hc.2.1 x hx) (by omega) (by omega))
        refine tY oky ?_; iterate 5 refine Z ?_
        refine drawP.mkS (Z (Z ?_)); refine Z ?_
        apply exP.mk
        exact rfl
        apply exP.mk
        exact rfl
        apply exP.mk
        exact rfl
        refine callW.mk [] 3 _ _ _ (hmv) rfl rfl okk nofun ?_; iterate 2 refine Z ?_
        refine callW.mk [] 4 _ _ _ (hsm) rfl rfl okk nofun ?_; refine Z ?_; refine tY oky ?_; iterate 10 refine Z ?_
        refine lem1 (by omega) ?_; refine ea ?_; refine nw (by omega) (by omega) ?_; rotate_left; refine hR (k + 1) _ _ ?_ ?_; rotate_left; refine weak.mk [] [0, 5] rfl rfl ?_ ?_
        repeat' first | exact trivial | exact rfl | exact Iff.rfl | assumption | exact pureI | exact (show _ = _ by omega) | exact (show _ ≤ _ by omega) | exact (show _ < _ by omega) | exact (show ¬ _ by omega) | refine And.intro ?_ ?_
        rotate_right
        · exact ⟨by show ((k + 1 : Nat) : Int) ≤ n; omega, by omega⟩
        · rw [hy]
      · have hy := axK_no (fun e => h e.symm)
        have hmv := moved_k2 (axF n k) n l hc (axF_ok hc) (fun x hx => axes1_c x k n l (hc.2.1 x hx) (by omega) (by omega))
        refine tY oky ?_; iterate 5 refine Z ?_
        refine drawP.mkS (Z (Z ?_)); refine Z ?_
        apply exP.mk
        exact rfl
        apply exP.mk
        exact rfl
        apply exP.mk
        exact rfl
        refine callW.mk [] 3 _ _ _ (hmv) rfl rfl okk nofun ?_; iterate 2 refine Z ?_
        refine callW.mk [] 4 _ _ _ (hsm) rfl rfl okk nofun ?_; refine Z ?_; refine tN okn ?_; refine nw (by omega) (by omega) ?_; rotate_left; refine hR (k + 1) _ _ ?_ ?_; rotate_left; refine weak.mk [] [0, 1] rfl rfl ?_ ?_
        repeat' first | exact trivial | exact rfl | exact Iff.rfl | assumption | exact pureI | exact (show _ = _ by omega) | exact (show _ ≤ _ by omega) | exact (show _ < _ by omega) | exact (show ¬ _ by omega) | refine And.intro ?_ ?_
        rotate_right
        · exact ⟨by show ((k + 1 : Nat) : Int) ≤ n; omega, by omega⟩
        · rw [hy]
    · have hke : n.toNat = k := by omega
      have hax : axL n l = axK n l k := by unfold axL; rw [hke]
      rw [hax]
      refine tN okn ?_; rotate_left; refine doneV.mk [] [1] rfl rfl ?_ ?_ ?_
      repeat' first | exact trivial | exact rfl | exact Iff.rfl | assumption | exact pureI | exact (show _ = _ by omega) | exact (show _ ≤ _ by omega) | exact (show _ < _ by omega) | exact (show ¬ _ by omega) | refine And.intro ?_ ?_
end Sx
