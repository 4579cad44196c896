/- Contracts: the law of runs. -/
import Derived.Test.YteaabofmnlbmkaaGreatSyC
import Derived.Test.YteaabofmnlbmkaaGreatCSc
import Derived.Test.YteaabofmnlbmkaaGreatCRu
import Derived.Test.YteaabofmnlbmkaaGreatMxA
set_option linter.all false
namespace Sx
open Go Go.Proofs
set_option maxRecDepth 100000
set_option maxHeartbeats 8000000
set_option linter.unusedSimpArgs false
set_option linter.unusedSectionVars false
variable [Glb]
theorem l1OwnE_c (l : List Int) (hl : l.length ≤ 1099511627776) : C 76 [ints l] [] (.loc 0) [row l] false := by
  refine mkC false false Tryz.func76 rfl ?_; refine And.intro nofun ?_; iterate 6 refine Z ?_
  refine lem0 (by omega) ?_; rotate_left; refine doneV.mk [] [0] rfl rfl ?_ ?_ ?_
  repeat' first | exact trivial | exact rfl | exact Iff.rfl | assumption | exact pureI | exact (show _ = _ by omega) | exact (show _ ≤ _ by omega) | exact (show _ < _ by omega) | exact (show ¬ _ by omega) | refine And.intro ?_ ?_
theorem RunCrowd_c (n : Int) (l r : List Int) (t : Int) (hl : l.length ≤ 1099511627776) (hrl : r.length ≤ 1099511627776) : C 33 [.agg [i64 n, ints l], ints r, i64 t] [] (.tuple [.agg [i64 (rcN n l r t), .loc 0], i64 (rcD n l r t), pr (rcOk n l r t)]) [row (rcL n l r t)] false := by
  refine mkC false false Tryz.func33 rfl ?_; refine And.intro nofun ?_
  by_cases h : rcOk n l r t
  · obtain ⟨hc, hr, ht0, ht⟩ := h
    have hok : rcOk n l r t := ⟨hc, hr, ht0, ht⟩
    obtain ⟨m, rfl⟩ : ∃ m : Nat, t = m := ⟨t.toNat, by omega⟩
    rw [(rc_yes hok).1, (rc_yes hok).2.1, (rc_yes hok).2.2, Int.toNat_natCast]
    iterate 2 refine Z ?_
    refine callW.mk [] 2 _ _ _ (IsCrowd_c _ _ oka) rfl rfl trivial nofun ?_; refine tN okn ?_; refine callW.mk [] 2 _ _ _ (IsRobotRule_c _ oka) rfl rfl trivial nofun ?_; refine tN okn ?_; refine callW.mk [] 2 _ _ _ (within_c _ _ _) rfl rfl trivial nofun ?_; refine tN okn ?_; refine callW.mk [] 2 _ _ _ (turned_c _ _ _ oka oka) rfl rfl trivial nofun ?_; iterate 4 refine Z ?_
    rotate_left
    rw [trn_0 hc]
    refine loop_up (β := Nat) (fun k => [(29, i64 k), (27, .unk), (7, .unk), (8, .unk)]) (fun k => [(2, row (runL n l r k))]) [] (fun k => k ≤ m ∧ runD n l r k = k) (fun k => m - k) (0) ?_ ?_ ?_
    · exact ⟨Nat.zero_le _, rfl⟩
    · refine weak.mk [] [0, 1, 2] rfl rfl ?_ ?_
      repeat' first | exact trivial | exact rfl | exact Iff.rfl | assumption | exact pureI | exact (show _ = _ by omega) | exact (show _ ≤ _ by omega) | exact (show _ < _ by omega) | exact (show ¬ _ by omega) | refine And.intro ?_ ?_
    · rintro k ⟨hk, hD⟩ R hR
      obtain ⟨hcK, hlK⟩ := run_crowd (r := r) hc k
      have hl2 := hc.1.2
      by_cases hkm : k < m
      · by_cases hs : stepOk n (runL n l r k) r
        · have hy := run_yes hs
          have hy2 : runD n l r (k + 1) = k + 1 := by rw [hy.2, hD]
          have hst := st_yes hs
          refine tY oky ?_; refine callW.mk [] 3 _ _ _ (step_c _ _ _ oka oka) rfl rfl trivial nofun ?_; iterate 5 refine Z ?_
          refine tN okn ?_; iterate 4 refine Z ?_
          refine nw (by omega) (by omega) ?_; rotate_left
          rw [hst.1, hst.2]
          refine hR (k + 1) _ _ ?_ ?_; rotate_left; refine weak.mk [] [0, 1, 3] rfl rfl ?_ ?_
          repeat' first | exact trivial | exact rfl | exact Iff.rfl | assumption | exact pureI | exact (show _ = _ by omega) | exact (show _ ≤ _ by omega) | exact (show _ < _ by omega) | exact (show ¬ _ by omega) | refine And.intro ?_ ?_
          rotate_right
          · exact ⟨⟨by omega, hy2⟩, by omega⟩
          · rw [hy.1]
        · have hno := run_stop2 hs hk
          rw [hno.1, hno.2, hD]
          refine tY oky ?_; refine callW.mk [] 3 _ _ _ (step_c _ _ _ oka oka) rfl rfl trivial nofun ?_; iterate 5 refine Z ?_
          refine tY oky ?_; iterate 4 refine Z ?_
          rotate_left; refine doneV.mk [] [2] rfl rfl ?_ ?_ ?_
          repeat' first | exact trivial | exact rfl | exact Iff.rfl | assumption | exact pureI | exact (show _ = _ by omega) | exact (show _ ≤ _ by omega) | exact (show _ < _ by omega) | exact (show ¬ _ by omega) | refine And.intro ?_ ?_
          all_goals exact hok
      · have hkm2 : k = m := by omega
        rw [hkm2] at hD ⊢
        rw [hD]
        refine tN okn ?_; iterate 4 refine Z ?_
        rotate_left; refine doneV.mk [] [2] rfl rfl ?_ ?_ ?_
        repeat' first | exact trivial | exact rfl | exact Iff.rfl | assumption | exact pureI | exact (show _ = _ by omega) | exact (show _ ≤ _ by omega) | exact (show _ < _ by omega) | exact (show ¬ _ by omega) | refine And.intro ?_ ?_
        all_goals exact hok
  · rw [(rc_no h).1, (rc_no h).2.1, (rc_no h).2.2]
    by_cases hc : crowd n l
    · by_cases hr : isRule r
      · have ht : ¬ (0 ≤ t ∧ t ≤ 20) := fun x => h ⟨hc, hr, x.1, x.2⟩
        iterate 2 refine Z ?_
        refine callW.mk [] 2 _ _ _ (IsCrowd_c _ _ oka) rfl rfl trivial nofun ?_; refine tN okn ?_; refine callW.mk [] 2 _ _ _ (IsRobotRule_c _ oka) rfl rfl trivial nofun ?_; refine tN okn ?_; refine callW.mk [] 2 _ _ _ (within_c _ _ _) rfl rfl trivial nofun ?_; refine tY oky ?_; iterate 5 refine Z ?_
        rotate_left; refine doneV.mk [1] [2] rfl rfl ?_ ?_ ?_
        repeat' first | exact trivial | exact rfl | exact Iff.rfl | assumption | exact pureI | exact (show _ = _ by omega) | exact (show _ ≤ _ by omega) | exact (show _ < _ by omega) | exact (show ¬ _ by omega) | refine And.intro ?_ ?_
        all_goals exact h
      · iterate 2 refine Z ?_
        refine callW.mk [] 2 _ _ _ (IsCrowd_c _ _ oka) rfl rfl trivial nofun ?_; refine tN okn ?_; refine callW.mk [] 2 _ _ _ (IsRobotRule_c _ oka) rfl rfl trivial nofun ?_; refine tY oky ?_; iterate 5 refine Z ?_
        rotate_left; refine doneV.mk [1] [2] rfl rfl ?_ ?_ ?_
        repeat' first | exact trivial | exact rfl | exact Iff.rfl | assumption | exact pureI | exact (show _ = _ by omega) | exact (show _ ≤ _ by omega) | exact (show _ < _ by omega) | exact (show ¬ _ by omega) | refine And.intro ?_ ?_
        all_goals exact h
    · iterate 2 refine Z ?_
      refine callW.mk [] 2 _ _ _ (IsCrowd_c _ _ oka) rfl rfl trivial nofun ?_; refine tY oky ?_; iterate 5 refine Z ?_
      rotate_left; refine doneV.mk [1] [2] rfl rfl ?_ ?_ ?_
      repeat' first | exact trivial | exact rfl | exact Iff.rfl | assumption | exact pureI | exact (show _ = _ by omega) | exact (show _ ≤ _ by omega) | exact (show _ < _ by omega) | exact (show ¬ _ by omega) | refine And.intro ?_ ?_
      all_goals exact h
theorem sRunCrowd_c (n : Int) (l r : List Int) (t : Int) (hl : l.length ≤ 1099511627776) (hrl : r.length ≤ 1099511627776) : C 34 [.agg [i64 n, ints l], ints r, i64 t] [] (.tuple [.agg [i64 (rcN n l r t), .loc 0], i64 (rcD n l r t), pr (rcOk n l r t)]) [row (rcL n l r t)] false := by
  refine mkC false false Tryz.func34 rfl ?_; refine And.intro nofun ?_
  by_cases h : rcOk n l r t
  · obtain ⟨hc, hr, ht0, ht⟩ := h
    have hok : rcOk n l r t := ⟨hc, hr, ht0, ht⟩
    have hl2 := hc.1.2
    obtain ⟨m, rfl⟩ : ∃ m : Nat, t = m := ⟨t.toNat, by omega⟩
    rw [(rc_yes hok).1, (rc_yes hok).2.1, (rc_yes hok).2.2, Int.toNat_natCast]
    iterate 2 refine Z ?_
    refine callW.mk [] 2 _ _ _ (l10Crowd_c _ _ oka) rfl rfl trivial nofun ?_; refine tN okn ?_; refine callW.mk [] 2 _ _ _ (l10Rule_c _ oka) rfl rfl trivial nofun ?_; refine tN okn ?_; refine callW.mk [] 2 _ _ _ (in_c _ _ _) rfl rfl trivial nofun ?_; refine tN okn ?_; refine drawP.mkS (Z (Z ?_)); refine Z ?_
    apply exP.mk
    refine Z ?_
    exact rfl
    apply exP.mk
    exact rfl
    apply exP.mk
    refine Z ?_
    exact rfl
    apply exP.mk
    exact rfl
    refine BothP.mk ?_ ?_; refine callW.mk [] 2 _ _ _ (l1OwnE_c _ oka) rfl rfl trivial nofun ?_; refine Z ?_; refine And.intro ?_ ?_; refine Z ?_
    exact rfl
    refine Z ?_
    apply exP.mk
    iterate 7 refine Z ?_
    exact rfl
    iterate 2 refine Z ?_
    refine And.intro ?_ ?_; refine Z ?_
    exact rfl
    refine Z ?_; refine And.intro ?_ ?_; iterate 7 refine Z ?_
    exact rfl
    iterate 5 refine Z ?_
    apply exP.mk
    exact rfl
    rotate_left; iterate 2 refine Z ?_
    refine And.intro ?_ ?_; refine Z ?_
    exact rfl
    refine Z ?_; refine And.intro ?_ ?_; refine Z ?_
    exact rfl
    refine Z ?_; refine callW.mk [] 3 _ _ _ (l1OwnE_c _ oka) rfl rfl trivial nofun ?_; refine Z ?_; refine And.intro ?_ ?_; refine Z ?_
    exact rfl
    refine Z ?_
    apply exP.mk
    iterate 7 refine Z ?_
    exact rfl
    iterate 5 refine Z ?_
    apply exP.mk
    exact rfl
    rotate_left
    · refine loop_up (β := Nat) (fun k => [(10, i64 k), (31, .unk), (32, .unk)]) (fun k => [(2, row (runL n l r k))]) [] (fun k => k ≤ m ∧ runD n l r k = k) (fun k => m - k) (0) ?_ ?_ ?_
      · exact ⟨Nat.zero_le _, rfl⟩
      · refine weak.mk [] [0, 1, 2, 3] rfl rfl ?_ ?_
        repeat' first | exact trivial | exact rfl | exact Iff.rfl | assumption | exact pureI | exact (show _ = _ by omega) | exact (show _ ≤ _ by omega) | exact (show _ < _ by omega) | exact (show ¬ _ by omega) | refine And.intro ?_ ?_
      · rintro k ⟨hk, hD⟩ R hR
        obtain ⟨hcK, hlK⟩ := run_crowd (r := r) hc k
        by_cases hkm : k < m
        · by_cases hs : stepOk n (runL n l r k) r
          · have hy := run_yes hs
            have hy2 : runD n l r (k + 1) = k + 1 := by rw [hy.2, hD]
            have hst := st_yes hs
            have hq := l10Step_c n (runL n l r k) r hcK hr
            rw [hst.1, hst.2] at hq
            refine tY oky ?_; refine callW.mk [] 4 _ _ _ (hq) rfl rfl okk nofun ?_; iterate 5 refine Z ?_
            refine tN okn ?_; iterate 4 refine Z ?_
            refine nw (by omega) (by omega) ?_; rotate_left; refine hR (k + 1) _ _ ?_ ?_; rotate_left; refine weak.mk [] [0, 1, 4, 3] rfl rfl ?_ ?_
            repeat' first | exact trivial | exact rfl | exact Iff.rfl | assumption | exact pureI | exact (show _ = _ by omega) | exact (show _ ≤ _ by omega) | exact (show _ < _ by omega) | exact (show ¬ _ by omega) | refine And.intro ?_ ?_
            rotate_right
            · exact ⟨⟨by omega, hy2⟩, by omega⟩
            · rw [hy.1]
          · have hno := run_stop2 hs hk
            rw [hno.1, hno.2, hD]
            refine tY oky ?_; refine callW.mk [] 4 _ _ _ (l10Step_c _ _ _ oka oka) rfl rfl trivial nofun ?_; iterate 5 refine Z ?_
            refine tY oky ?_; iterate 4 refine Z ?_
            rotate_left; refine doneV.mk [] [2] rfl rfl ?_ ?_ ?_
            repeat' first | exact trivial | exact rfl | exact Iff.rfl | assumption | exact pureI | exact (show _ = _ by omega) | exact (show _ ≤ _ by omega) | exact (show _ < _ by omega) | exact (show ¬ _ by omega) | refine And.intro ?_ ?_
            all_goals exact hok
        · have hkm2 : k = m := by omega
          rw [hkm2] at hD ⊢
          rw [hD]
          refine tN okn ?_; iterate 4 refine Z ?_
          rotate_left; refine doneV.mk [] [2] rfl rfl ?_ ?_ ?_
          repeat' first | exact trivial | exact rfl | exact Iff.rfl | assumption | exact pureI | exact (show _ = _ by omega) | exact (show _ ≤ _ by omega) | exact (show _ < _ by omega) | exact (show ¬ _ by omega) | refine And.intro ?_ ?_
          all_goals exact hok
    · refine loop_up (β := Nat) (fun k => [(10, i64 k), (31, .unk), (32, .unk)]) (fun k => [(3, row (runL n l r k))]) [] (fun k => k ≤ m ∧ runD n l r k = k) (fun k => m - k) (0) ?_ ?_ ?_
      · exact ⟨Nat.zero_le _, rfl⟩
      · refine weak.mk [] [0, 1, 2, 3] rfl rfl ?_ ?_
        repeat' first | exact trivial | exact rfl | exact Iff.rfl | assumption | exact pureI | exact (show _ = _ by omega) | exact (show _ ≤ _ by omega) | exact (show _ < _ by omega) | exact (show ¬ _ by omega) | refine And.intro ?_ ?_
      · rintro k ⟨hk, hD⟩ R hR
        obtain ⟨hcK, hlK⟩ := run_crowd (r := r) hc k
        by_cases hkm : k < m
        · by_cases hs : stepOk n (runL n l r k) r
          · have hy := run_yes hs
            have hy2 : runD n l r (k + 1) = k + 1 := by rw [hy.2, hD]
            have hst := st_yes hs
            have hq := l10Step_c n (runL n l r k) r hcK hr
            rw [hst.1, hst.2] at hq
            refine tY oky ?_; refine callW.mk [] 4 _ _ _ (hq) rfl rfl okk nofun ?_; iterate 5 refine Z ?_
            refine tN okn ?_; iterate 4 refine Z ?_
            refine nw (by omega) (by omega) ?_; rotate_left; refine hR (k + 1) _ _ ?_ ?_; rotate_left; refine weak.mk [] [0, 1, 2, 4] rfl rfl ?_ ?_
            repeat' first | exact trivial | exact rfl | exact Iff.rfl | assumption | exact pureI | exact (show _ = _ by omega) | exact (show _ ≤ _ by omega) | exact (show _ < _ by omega) | exact (show ¬ _ by omega) | refine And.intro ?_ ?_
            rotate_right
            · exact ⟨⟨by omega, hy2⟩, by omega⟩
            · rw [hy.1]
          · have hno := run_stop2 hs hk
            rw [hno.1, hno.2, hD]
            refine tY oky ?_; refine callW.mk [] 4 _ _ _ (l10Step_c _ _ _ oka oka) rfl rfl trivial nofun ?_; iterate 5 refine Z ?_
            refine tY oky ?_; iterate 4 refine Z ?_
            rotate_left; refine doneV.mk [] [3] rfl rfl ?_ ?_ ?_
            repeat' first | exact trivial | exact rfl | exact Iff.rfl | assumption | exact pureI | exact (show _ = _ by omega) | exact (show _ ≤ _ by omega) | exact (show _ < _ by omega) | exact (show ¬ _ by omega) | refine And.intro ?_ ?_
            all_goals exact hok
        · have hkm2 : k = m := by omega
          rw [hkm2] at hD ⊢
          rw [hD]
          refine tN okn ?_; iterate 4 refine Z ?_
          rotate_left; refine doneV.mk [] [3] rfl rfl ?_ ?_ ?_
          repeat' first | exact trivial | exact rfl | exact Iff.rfl | assumption | exact pureI | exact (show _ = _ by omega) | exact (show _ ≤ _ by omega) | exact (show _ < _ by omega) | exact (show ¬ _ by omega) | refine And.intro ?_ ?_
          all_goals exact hok
  · rw [(rc_no h).1, (rc_no h).2.1, (rc_no h).2.2]
    by_cases hc : crowd n l
    · by_cases hr : isRule r
      · have ht : ¬ (0 ≤ t ∧ t ≤ 20) := fun x => h ⟨hc, hr, x.1, x.2⟩
        iterate 2 refine Z ?_
        refine callW.mk [] 2 _ _ _ (l10Crowd_c _ _ oka) rfl rfl trivial nofun ?_; refine tN okn ?_; refine callW.mk [] 2 _ _ _ (l10Rule_c _ oka) rfl rfl trivial nofun ?_; refine tN okn ?_; refine callW.mk [] 2 _ _ _ (in_c _ _ _) rfl rfl trivial nofun ?_; refine tY oky ?_; iterate 5 refine Z ?_
        rotate_left; refine doneV.mk [1] [2] rfl rfl ?_ ?_ ?_
        repeat' first | exact trivial | exact rfl | exact Iff.rfl | assumption | exact pureI | exact (show _ = _ by omega) | exact (show _ ≤ _ by omega) | exact (show _ < _ by omega) | exact (show ¬ _ by omega) | refine And.intro ?_ ?_
        all_goals exact h
      · iterate 2 refine Z ?_
        refine callW.mk [] 2 _ _ _ (l10Crowd_c _ _ oka) rfl rfl trivial nofun ?_; refine tN okn ?_; refine callW.mk [] 2 _ _ _ (l10Rule_c _ oka) rfl rfl trivial nofun ?_; refine tY oky ?_; iterate 5 refine Z ?_
        rotate_left; refine doneV.mk [1] [2] rfl rfl ?_ ?_ ?_
        repeat' first | exact trivial | exact rfl | exact Iff.rfl | assumption | exact pureI | exact (show _ = _ by omega) | exact (show _ ≤ _ by omega) | exact (show _ < _ by omega) | exact (show ¬ _ by omega) | refine And.intro ?_ ?_
        all_goals exact h
    · iterate 2 refine Z ?_
      refine callW.mk [] 2 _ _ _ (l10Crowd_c _ _ oka) rfl rfl trivial nofun ?_; refine tY oky ?_; iterate 5 refine Z ?_
      rotate_left; refine doneV.mk [1] [2] rfl rfl ?_ ?_ ?_
      repeat' first | exact trivial | exact rfl | exact Iff.rfl | assumption | exact pureI | exact (show _ = _ by omega) | exact (show _ ≤ _ by omega) | exact (show _ < _ by omega) | exact (show ¬ _ by omega) | refine And.intro ?_ ?_
      all_goals exact h
end Sx
