/- Contracts: the law of the elected place. -/
import Derived.Test.YteaabofmnlbmkaaGreatSyC
import Derived.Test.YteaabofmnlbmkaaGreatCRw
import Derived.Test.YteaabofmnlbmkaaGreatCRu
set_option linter.all false
namespace Sx
open Go Go.Proofs
set_option maxRecDepth 100000
set_option maxHeartbeats 8000000
set_option linter.unusedSimpArgs false
set_option linter.unusedSectionVars false
variable [Glb]
noncomputable def epR (n : Int) (l : List Int) : Int := if crowd n l ∧ 0 ≤ elI n l then l.getD (elI n l).toNat 0 else 0
theorem ep_yes {n : Int} {l : List Int} (h : crowd n l ∧ 0 ≤ elI n l) : epR n l = l.getD (elI n l).toNat 0 := if_pos h
theorem ep_no {n : Int} {l : List Int} (h : ¬ (crowd n l ∧ 0 ≤ elI n l)) : epR n l = 0 := if_neg h
theorem found_c (t : Int) : C 62 [i64 t] [] (.tuple [i64 (max 0 t), pr (0 ≤ t)]) [] false := by
  refine mkC false false Tryz.func62 rfl ?_; refine And.intro nofun ?_; refine nr ?_; rotate_left; refine doneV.mk [] [] rfl rfl ?_ ?_ ?_
  repeat' first | exact trivial | exact rfl | exact Iff.rfl | assumption | exact pureI | exact (show _ = _ by omega) | exact (show _ ≤ _ by omega) | exact (show _ < _ by omega) | exact (show ¬ _ by omega) | refine And.intro ?_ ?_
theorem ElectPlace_c (n : Int) (l : List Int) (hl : l.length ≤ 1099511627776) : C 23 [.agg [i64 n, ints l]] [] (.tuple [i64 (epR n l), pr (crowd n l ∧ 0 ≤ elI n l)]) [] false := by
  refine mkC false false Tryz.func23 rfl ?_; refine And.intro nofun ?_
  by_cases h : crowd n l
  · by_cases he : 0 ≤ elI n l
    · have hb := elI_bd n l
      obtain ⟨e, hee⟩ : ∃ e : Nat, elI n l = e := ⟨(elI n l).toNat, by omega⟩
      have hel : e < l.length := by omega
      have hg : l.getD e 0 = l[e] := elI_get hel
      have hr : inR n l := h.2.1
      have h0 := hr _ (List.getElem_mem hel)
      have hP : elP n l = l[e] := by unfold elP; rw [if_neg (by omega), hee, Int.toNat_natCast, hg]
      have hm : max 0 l[e] = l[e] := by omega
      rw [ep_yes ⟨h, he⟩, hee, Int.toNat_natCast, hg]
      have hq := elect_c n l h
      have hf := found_c l[e]
      rw [hP] at hq
      rw [hm] at hf
      refine Z ?_; refine callW.mk [] 1 _ _ _ (IsCrowd_c _ _ oka) rfl rfl trivial nofun ?_; refine tN okn ?_; refine callW.mk [] 1 _ _ _ (hq) rfl rfl okk nofun ?_; refine callW.mk [] 1 _ _ _ (hf) rfl rfl okk nofun ?_; rotate_left; refine doneV.mk [] [] rfl rfl ?_ ?_ ?_
      repeat' first | exact trivial | exact rfl | exact Iff.rfl | assumption | exact pureI | exact (show _ = _ by omega) | exact (show _ ≤ _ by omega) | exact (show _ < _ by omega) | exact (show ¬ _ by omega) | refine And.intro ?_ ?_
      exact Iff.intro (fun _ => ⟨h, by omega⟩) (fun _ => h0.1)
    · have hP : elP n l = -1 := by unfold elP; rw [if_pos (by omega)]
      have hq := elect_c n l h
      have hf := found_c (-1)
      rw [hP] at hq
      rw [show max 0 (-1 : Int) = 0 from rfl] at hf
      rw [ep_no fun x => he x.2]
      refine Z ?_; refine callW.mk [] 1 _ _ _ (IsCrowd_c _ _ oka) rfl rfl trivial nofun ?_; refine tN okn ?_; refine callW.mk [] 1 _ _ _ (hq) rfl rfl okk nofun ?_; refine callW.mk [] 1 _ _ _ (hf) rfl rfl okk nofun ?_; rotate_left; refine doneV.mk [] [] rfl rfl ?_ ?_ ?_
      repeat' first | exact trivial | exact rfl | exact Iff.rfl | assumption | exact pureI | exact (show _ = _ by omega) | exact (show _ ≤ _ by omega) | exact (show _ < _ by omega) | exact (show ¬ _ by omega) | refine And.intro ?_ ?_
      exact Iff.intro (fun x => absurd x (by decide)) (fun x => absurd x.2 he)
  · rw [ep_no fun x => h x.1]
    refine Z ?_; refine callW.mk [] 1 _ _ _ (IsCrowd_c _ _ oka) rfl rfl trivial nofun ?_; refine tY oky ?_; rotate_left; refine doneV.mk [] [] rfl rfl ?_ ?_ ?_
    repeat' first | exact trivial | exact rfl | exact Iff.rfl | assumption | exact pureI | exact (show _ = _ by omega) | exact (show _ ≤ _ by omega) | exact (show _ < _ by omega) | exact (show ¬ _ by omega) | refine And.intro ?_ ?_
    all_goals (first | exact fun x => h x.1 | skip)
theorem sElectPlace_c (n : Int) (l : List Int) (hl : l.length ≤ 1099511627776) : C 24 [.agg [i64 n, ints l]] [] (.tuple [i64 (epR n l), pr (crowd n l ∧ 0 ≤ elI n l)]) [] false := by
  refine mkC false false Tryz.func24 rfl ?_; refine And.intro nofun ?_
  by_cases h : crowd n l
  · by_cases he : 0 ≤ elI n l
    · have hb := elI_bd n l
      obtain ⟨e, hee⟩ : ∃ e : Nat, elI n l = e := ⟨(elI n l).toNat, by omega⟩
      have hel : e < l.length := by omega
      have hg : l.getD e 0 = l[e] := elI_get hel
      rw [ep_yes ⟨h, he⟩, hee, Int.toNat_natCast, hg]
      have hq := l10Elect_c n l h
      rw [hee] at hq
      refine Z ?_; refine callW.mk [] 1 _ _ _ (l10Crowd_c _ _ oka) rfl rfl trivial nofun ?_; refine tN okn ?_; refine callW.mk [] 1 _ _ _ (hq) rfl rfl okk nofun ?_; refine tN okn ?_; refine drawP.mk 8 (Z (Z (Z (Z ?_))))
      apply exP.mk
      refine Z ?_
      exact rfl
      apply exP.mk
      exact rfl
      apply exP.mk
      exact rfl
      apply exP.mk
      refine callP.mk _ _ _ (hq) okk nofun trivial ?_
      exact rfl
      apply exP.mk
      iterate 2 refine Z ?_
      refine jkm (by omega) ?_
      exact rfl
      apply exP.mk
      refine gm (by omega) ?_
      exact rfl
      apply exP.mk
      exact rfl
      apply exP.mk
      exact rfl
      rotate_left; refine doneV.mk [] [] rfl rfl ?_ ?_ ?_
      repeat' first | exact trivial | exact rfl | exact Iff.rfl | assumption | exact pureI | exact (show _ = _ by omega) | exact (show _ ≤ _ by omega) | exact (show _ < _ by omega) | exact (show ¬ _ by omega) | refine And.intro ?_ ?_
      all_goals (first | exact ⟨h, by omega⟩ | skip)
    · rw [ep_no fun x => he x.2]
      refine Z ?_; refine callW.mk [] 1 _ _ _ (l10Crowd_c _ _ oka) rfl rfl trivial nofun ?_; refine tN okn ?_; refine callW.mk [] 1 _ _ _ (l10Elect_c _ _ oka) rfl rfl trivial nofun ?_; refine tY oky ?_; rotate_left; refine doneV.mk [] [] rfl rfl ?_ ?_ ?_
      repeat' first | exact trivial | exact rfl | exact Iff.rfl | assumption | exact pureI | exact (show _ = _ by omega) | exact (show _ ≤ _ by omega) | exact (show _ < _ by omega) | exact (show ¬ _ by omega) | refine And.intro ?_ ?_
      all_goals (first | exact fun x => he x.2 | skip)
  · rw [ep_no fun x => h x.1]
    refine Z ?_; refine callW.mk [] 1 _ _ _ (l10Crowd_c _ _ oka) rfl rfl trivial nofun ?_; refine tY oky ?_; rotate_left; refine doneV.mk [] [] rfl rfl ?_ ?_ ?_
    repeat' first | exact trivial | exact rfl | exact Iff.rfl | assumption | exact pureI | exact (show _ = _ by omega) | exact (show _ ≤ _ by omega) | exact (show _ < _ by omega) | exact (show ¬ _ by omega) | refine And.intro ?_ ?_
    all_goals (first | exact fun x => h x.1 | skip)
end Sx
