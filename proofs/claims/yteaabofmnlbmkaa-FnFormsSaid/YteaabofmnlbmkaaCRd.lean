/- Contracts: the first crowd of a form, as the other text finds it. -/
import Derived.Test.YteaabofmnlbmkaaSyC
import Derived.Test.YteaabofmnlbmkaaCRb
set_option linter.all false
namespace Sx
open Go Go.Proofs
set_option maxRecDepth 100000
set_option maxHeartbeats 8000000
set_option linter.unusedSimpArgs false
set_option linter.unusedSectionVars false
variable [Glb]
theorem l1Own_c (l : List Int) (hl : l.length ≤ 1099511627776) : C 68 [ints l] [] (.loc 0) [row l] false := by
  refine mkC false false Try.func68 rfl ?_; refine And.intro nofun ?_; iterate 6 refine Z ?_
  refine lem0 (by omega) ?_; rotate_left; refine doneV.mk [] [0] rfl rfl ?_ ?_ ?_
  repeat' first | exact trivial | exact rfl | exact Iff.rfl | assumption | exact pureI | exact (show _ = _ by omega) | exact (show _ ≤ _ by omega) | exact (show _ < _ by omega) | exact (show ¬ _ by omega) | refine And.intro ?_ ?_
theorem l10Form_c (n : Int) (l : List Int) (hc : crowd n l) : C 52 [.agg [i64 n, ints l]] [] (.agg [i64 n, .loc 0]) [row (formR n l)] false := by
  have hn := hc.1.1
  have hl := hc.1.2
  obtain ⟨m1, m2⟩ := mir_crowd hc
  refine mkC false false Try.func52 rfl ?_; refine And.intro nofun ?_; iterate 2 refine Z ?_
  refine drawP.mkS (Z (Z ?_)); refine Z ?_
  apply exP.mk
  exact rfl
  apply exP.mk
  exact rfl
  apply exP.mk
  refine Z ?_
  exact rfl
  apply exP.mk
  exact rfl
  apply exP.mk
  refine nw (by omega) (by omega) ?_
  exact rfl
  refine BothP.mk ?_ ?_; refine callW.mk [] 2 _ _ _ (l10Mirror_c _ _ oka _ oka) rfl rfl trivial nofun ?_; iterate 2 refine Z ?_
  refine BothP.mk ?_ ?_; iterate 16 refine Z ?_
  rotate_left; iterate 16 refine Z ?_
  rotate_left; refine BothP.mk ?_ ?_
  iterate 4 refine Z ?_
  refine And.intro ?_ ?_; refine Z ?_
  exact rfl
  refine Z ?_; refine And.intro ?_ ?_; refine nw (by omega) (by omega) ?_
  exact rfl
  refine BothP.mk ?_ ?_; refine callW.mk [] 3 _ _ _ (l10Mirror_c _ _ oka _ oka) rfl rfl trivial nofun ?_; iterate 15 refine Z ?_
  rotate_left; iterate 4 refine Z ?_
  refine And.intro ?_ ?_; refine Z ?_
  exact rfl
  refine Z ?_; refine And.intro ?_ ?_; refine nw (by omega) (by omega) ?_
  exact rfl
  refine callW.mk [] 4 _ _ _ (l10Mirror_c _ _ oka _ oka) rfl rfl trivial nofun ?_; iterate 12 refine Z ?_
  rotate_left; iterate 4 refine Z ?_
  refine And.intro ?_ ?_; refine Z ?_
  exact rfl
  refine Z ?_; refine And.intro ?_ ?_; refine nw (by omega) (by omega) ?_
  exact rfl
  refine BothP.mk ?_ ?_; refine callW.mk [] 3 _ _ _ (l10Mirror_c _ _ oka _ oka) rfl rfl trivial nofun ?_; iterate 15 refine Z ?_
  rotate_left; iterate 4 refine Z ?_
  refine And.intro ?_ ?_; refine Z ?_
  exact rfl
  refine Z ?_; refine And.intro ?_ ?_; refine nw (by omega) (by omega) ?_
  exact rfl
  refine callW.mk [] 4 _ _ _ (l10Mirror_c _ _ oka _ oka) rfl rfl trivial nofun ?_; iterate 12 refine Z ?_
  rotate_left
  · refine loop_up (β := Nat × Bool) (fun (k, f) => [(5, i64 k)]) (fun (k, f) => [(3, .row .var 2 [.agg [i64 n, cond f (ints l) (.loc 5)]]), (5, row (cond f [] (formK n l k)))]) [1] (fun (k, f) => k ≤ n.toNat ∧ (f = true → formK n l k = l)) (fun (k, f) => n.toNat - k) ((0, true)) ?_ ?_ ?_
    · exact ⟨Nat.zero_le _, fun _ => rfl⟩
    · refine weak.mk [1] [0, 1, 2, 3, 4, 5] rfl rfl ?_ ?_
      repeat' first | exact trivial | exact rfl | exact Iff.rfl | assumption | refine And.intro ?_ ?_
    · rintro ⟨k, f⟩ ⟨hk, hf⟩ R hR
      obtain ⟨f1, f2⟩ := formK_crowd hc k
      obtain ⟨t1, t2⟩ := trn_crowd (s := (k : Int)) hc
      obtain ⟨w1, w2⟩ := trn_crowd (s := (k : Int)) m1
      have hst : formK n l (k + 1) = less2 (trn n k (mir n l)) (less2 (trn n k l) (formK n l k)) := rfl
      by_cases hkn : k < n.toNat
      · cases f
        · by_cases ht : cmpL (trn n k l) (formK n l k) < 0
          · by_cases hw : cmpL (trn n k (mir n l)) (trn n k l) < 0
            · refine Z ?_
              refine tY oky ?_; refine callW.mk [] 6 _ _ _ (l10Turned_c _ _ _ oka oka) rfl rfl trivial nofun ?_; iterate 7 refine Z ?_
              refine callW.mk [] 8 _ _ _ (l10Less_c _ _ oka oka) rfl rfl trivial nofun ?_; refine tY oky ?_; iterate 4 refine Z ?_
              refine callW.mk [] 8 _ _ _ (l10Turned_c _ _ _ oka oka) rfl rfl trivial nofun ?_; iterate 7 refine Z ?_
              refine callW.mk [] 10 _ _ _ (l10Less_c _ _ oka oka) rfl rfl trivial nofun ?_; refine tY oky ?_; iterate 4 refine Z ?_
              refine nw (by omega) (by omega) ?_; rotate_left; refine hR ((k + 1, false)) _ _ ?_ ?_; rotate_left; refine weak.mk [] [0, 1, 2, 3, 4, 8] rfl rfl ?_ ?_
              repeat' first | exact trivial | exact rfl | exact Iff.rfl | assumption | exact pureI | exact (show _ = _ by omega) | exact (show _ ≤ _ by omega) | exact (show _ < _ by omega) | exact (show ¬ _ by omega) | refine And.intro ?_ ?_
              rotate_right
              · exact ⟨⟨by omega, nofun⟩, by show n.toNat - (k + 1) < n.toNat - k; omega⟩
              · show List.map i64 (trn n k (mir n l)) = List.map i64 (formK n l (k + 1))
                rw [hst, less2_yes ht, less2_yes hw]
            · refine Z ?_
              refine tY oky ?_; refine callW.mk [] 6 _ _ _ (l10Turned_c _ _ _ oka oka) rfl rfl trivial nofun ?_; iterate 7 refine Z ?_
              refine callW.mk [] 8 _ _ _ (l10Less_c _ _ oka oka) rfl rfl trivial nofun ?_; refine tY oky ?_; iterate 4 refine Z ?_
              refine callW.mk [] 8 _ _ _ (l10Turned_c _ _ _ oka oka) rfl rfl trivial nofun ?_; iterate 7 refine Z ?_
              refine callW.mk [] 10 _ _ _ (l10Less_c _ _ oka oka) rfl rfl trivial nofun ?_; refine tN okn ?_; refine nw (by omega) (by omega) ?_; rotate_left; refine hR ((k + 1, false)) _ _ ?_ ?_; rotate_left; refine weak.mk [] [0, 1, 2, 3, 4, 6] rfl rfl ?_ ?_
              repeat' first | exact trivial | exact rfl | exact Iff.rfl | assumption | exact pureI | exact (show _ = _ by omega) | exact (show _ ≤ _ by omega) | exact (show _ < _ by omega) | exact (show ¬ _ by omega) | refine And.intro ?_ ?_
              rotate_right
              · exact ⟨⟨by omega, nofun⟩, by show n.toNat - (k + 1) < n.toNat - k; omega⟩
              · show List.map i64 (trn n k l) = List.map i64 (formK n l (k + 1))
                rw [hst, less2_yes ht, less2_no hw]
          · by_cases hw : cmpL (trn n k (mir n l)) (formK n l k) < 0
            · refine Z ?_
              refine tY oky ?_; refine callW.mk [] 6 _ _ _ (l10Turned_c _ _ _ oka oka) rfl rfl trivial nofun ?_; iterate 7 refine Z ?_
              refine callW.mk [] 8 _ _ _ (l10Less_c _ _ oka oka) rfl rfl trivial nofun ?_; refine tN okn ?_; refine callW.mk [] 8 _ _ _ (l10Turned_c _ _ _ oka oka) rfl rfl trivial nofun ?_; iterate 7 refine Z ?_
              refine callW.mk [] 10 _ _ _ (l10Less_c _ _ oka oka) rfl rfl trivial nofun ?_; refine tY oky ?_; iterate 4 refine Z ?_
              refine nw (by omega) (by omega) ?_; rotate_left; refine hR ((k + 1, false)) _ _ ?_ ?_; rotate_left; refine weak.mk [] [0, 1, 2, 3, 4, 8] rfl rfl ?_ ?_
              repeat' first | exact trivial | exact rfl | exact Iff.rfl | assumption | exact pureI | exact (show _ = _ by omega) | exact (show _ ≤ _ by omega) | exact (show _ < _ by omega) | exact (show ¬ _ by omega) | refine And.intro ?_ ?_
              rotate_right
              · exact ⟨⟨by omega, nofun⟩, by show n.toNat - (k + 1) < n.toNat - k; omega⟩
              · show List.map i64 (trn n k (mir n l)) = List.map i64 (formK n l (k + 1))
                rw [hst, less2_no ht, less2_yes hw]
            · refine Z ?_
              refine tY oky ?_; refine callW.mk [] 6 _ _ _ (l10Turned_c _ _ _ oka oka) rfl rfl trivial nofun ?_; iterate 7 refine Z ?_
              refine callW.mk [] 8 _ _ _ (l10Less_c _ _ oka oka) rfl rfl trivial nofun ?_; refine tN okn ?_; refine callW.mk [] 8 _ _ _ (l10Turned_c _ _ _ oka oka) rfl rfl trivial nofun ?_; iterate 7 refine Z ?_
              refine callW.mk [] 10 _ _ _ (l10Less_c _ _ oka oka) rfl rfl trivial nofun ?_; refine tN okn ?_; refine nw (by omega) (by omega) ?_; rotate_left; refine hR ((k + 1, false)) _ _ ?_ (weak.mk [] [0, 1, 2, 3, 4, 5] rfl rfl ?_ ?_)
              repeat' first | exact trivial | exact rfl | exact Iff.rfl | assumption | refine And.intro ?_ ?_
              · exact ⟨⟨by omega, nofun⟩, by show n.toNat - (k + 1) < n.toNat - k; omega⟩
              · show List.map i64 (formK n l k) = List.map i64 (formK n l (k + 1))
                rw [hst, less2_no ht, less2_no hw]
        · have hfl := hf rfl
          rw [hfl] at hst
          by_cases ht : cmpL (trn n k l) l < 0
          · by_cases hw : cmpL (trn n k (mir n l)) (trn n k l) < 0
            · refine Z ?_
              refine tY oky ?_; refine callW.mk [] 6 _ _ _ (l10Turned_c _ _ _ oka oka) rfl rfl trivial nofun ?_; iterate 7 refine Z ?_
              refine callW.mk [] 8 _ _ _ (l10Less_c _ _ oka oka) rfl rfl trivial nofun ?_; refine tY oky ?_; iterate 4 refine Z ?_
              refine callW.mk [] 8 _ _ _ (l10Turned_c _ _ _ oka oka) rfl rfl trivial nofun ?_; iterate 7 refine Z ?_
              refine callW.mk [] 10 _ _ _ (l10Less_c _ _ oka oka) rfl rfl trivial nofun ?_; refine tY oky ?_; iterate 4 refine Z ?_
              refine nw (by omega) (by omega) ?_; rotate_left; refine hR ((k + 1, false)) _ _ ?_ ?_; rotate_left; refine weak.mk [] [0, 1, 2, 3, 4, 8] rfl rfl ?_ ?_
              repeat' first | exact trivial | exact rfl | exact Iff.rfl | assumption | exact pureI | exact (show _ = _ by omega) | exact (show _ ≤ _ by omega) | exact (show _ < _ by omega) | exact (show ¬ _ by omega) | refine And.intro ?_ ?_
              rotate_right
              · exact ⟨⟨by omega, nofun⟩, by show n.toNat - (k + 1) < n.toNat - k; omega⟩
              · show List.map i64 (trn n k (mir n l)) = List.map i64 (formK n l (k + 1))
                rw [hst, less2_yes ht, less2_yes hw]
            · refine Z ?_
              refine tY oky ?_; refine callW.mk [] 6 _ _ _ (l10Turned_c _ _ _ oka oka) rfl rfl trivial nofun ?_; iterate 7 refine Z ?_
              refine callW.mk [] 8 _ _ _ (l10Less_c _ _ oka oka) rfl rfl trivial nofun ?_; refine tY oky ?_; iterate 4 refine Z ?_
              refine callW.mk [] 8 _ _ _ (l10Turned_c _ _ _ oka oka) rfl rfl trivial nofun ?_; iterate 7 refine Z ?_
              refine callW.mk [] 10 _ _ _ (l10Less_c _ _ oka oka) rfl rfl trivial nofun ?_; refine tN okn ?_; refine nw (by omega) (by omega) ?_; rotate_left; refine hR ((k + 1, false)) _ _ ?_ ?_; rotate_left; refine weak.mk [] [0, 1, 2, 3, 4, 6] rfl rfl ?_ ?_
              repeat' first | exact trivial | exact rfl | exact Iff.rfl | assumption | exact pureI | exact (show _ = _ by omega) | exact (show _ ≤ _ by omega) | exact (show _ < _ by omega) | exact (show ¬ _ by omega) | refine And.intro ?_ ?_
              rotate_right
              · exact ⟨⟨by omega, nofun⟩, by show n.toNat - (k + 1) < n.toNat - k; omega⟩
              · show List.map i64 (trn n k l) = List.map i64 (formK n l (k + 1))
                rw [hst, less2_yes ht, less2_no hw]
          · by_cases hw : cmpL (trn n k (mir n l)) l < 0
            · refine Z ?_
              refine tY oky ?_; refine callW.mk [] 6 _ _ _ (l10Turned_c _ _ _ oka oka) rfl rfl trivial nofun ?_; iterate 7 refine Z ?_
              refine callW.mk [] 8 _ _ _ (l10Less_c _ _ oka oka) rfl rfl trivial nofun ?_; refine tN okn ?_; refine callW.mk [] 8 _ _ _ (l10Turned_c _ _ _ oka oka) rfl rfl trivial nofun ?_; iterate 7 refine Z ?_
              refine callW.mk [] 10 _ _ _ (l10Less_c _ _ oka oka) rfl rfl trivial nofun ?_; refine tY oky ?_; iterate 4 refine Z ?_
              refine nw (by omega) (by omega) ?_; rotate_left; refine hR ((k + 1, false)) _ _ ?_ ?_; rotate_left; refine weak.mk [] [0, 1, 2, 3, 4, 8] rfl rfl ?_ ?_
              repeat' first | exact trivial | exact rfl | exact Iff.rfl | assumption | exact pureI | exact (show _ = _ by omega) | exact (show _ ≤ _ by omega) | exact (show _ < _ by omega) | exact (show ¬ _ by omega) | refine And.intro ?_ ?_
              rotate_right
              · exact ⟨⟨by omega, nofun⟩, by show n.toNat - (k + 1) < n.toNat - k; omega⟩
              · show List.map i64 (trn n k (mir n l)) = List.map i64 (formK n l (k + 1))
                rw [hst, less2_no ht, less2_yes hw]
            · refine Z ?_
              refine tY oky ?_; refine callW.mk [] 6 _ _ _ (l10Turned_c _ _ _ oka oka) rfl rfl trivial nofun ?_; iterate 7 refine Z ?_
              refine callW.mk [] 8 _ _ _ (l10Less_c _ _ oka oka) rfl rfl trivial nofun ?_; refine tN okn ?_; refine callW.mk [] 8 _ _ _ (l10Turned_c _ _ _ oka oka) rfl rfl trivial nofun ?_; iterate 7 refine Z ?_
              refine callW.mk [] 10 _ _ _ (l10Less_c _ _ oka oka) rfl rfl trivial nofun ?_; refine tN okn ?_; refine nw (by omega) (by omega) ?_; rotate_left; refine hR ((k + 1, true)) _ _ ?_ (weak.mk [] [0, 1, 2, 3, 4, 5] rfl rfl ?_ ?_)
              repeat' first | exact trivial | exact rfl | exact Iff.rfl | assumption | refine And.intro ?_ ?_
              · exact ⟨⟨by omega, fun _ => by rw [hst, less2_no ht, less2_no hw]⟩, by show n.toNat - (k + 1) < n.toNat - k; omega⟩
      · have e : k = n.toNat := by omega
        cases f
        · refine Z ?_
          refine tN okn ?_; refine drawP.mkS (Z (Z ?_)); refine Z ?_
          apply exP.mk
          refine Z ?_
          exact rfl
          apply exP.mk
          exact rfl
          apply exP.mk
          refine Z ?_
          exact rfl
          apply exP.mk
          exact rfl
          refine callW.mk [] 6 _ _ _ (l1Own_c _ oka) rfl rfl trivial nofun ?_; refine Z ?_; refine And.intro ?_ ?_; refine Z ?_
          exact rfl
          refine Z ?_
          apply exP.mk
          iterate 7 refine Z ?_
          exact rfl
          iterate 5 refine Z ?_
          rotate_left; refine doneV.mk [] [6] rfl rfl ?_ ?_ ?_
          repeat' first | exact trivial | exact rfl | exact Iff.rfl | assumption | exact pureI | exact (show _ = _ by omega) | exact (show _ ≤ _ by omega) | exact (show _ < _ by omega) | exact (show ¬ _ by omega) | refine And.intro ?_ ?_
          exact map_congr (show formK n l k = formR n l from by unfold formR; rw [← e])
        · have hfl := hf rfl
          refine Z ?_; refine tN okn ?_; refine drawP.mkS (Z (Z ?_)); refine Z ?_
          apply exP.mk
          refine Z ?_
          exact rfl
          apply exP.mk
          exact rfl
          apply exP.mk
          refine Z ?_
          exact rfl
          apply exP.mk
          exact rfl
          refine callW.mk [] 6 _ _ _ (l1Own_c _ oka) rfl rfl trivial nofun ?_; refine Z ?_; refine And.intro ?_ ?_; refine Z ?_
          exact rfl
          refine Z ?_
          apply exP.mk
          iterate 7 refine Z ?_
          exact rfl
          iterate 5 refine Z ?_
          rotate_left; refine doneV.mk [] [6] rfl rfl ?_ ?_ ?_
          repeat' first | exact trivial | exact rfl | exact Iff.rfl | assumption | exact pureI | exact (show _ = _ by omega) | exact (show _ ≤ _ by omega) | exact (show _ < _ by omega) | exact (show ¬ _ by omega) | refine And.intro ?_ ?_
          exact map_congr (show l = formR n l from by unfold formR; rw [← e]; exact hfl.symm)
  · refine loop_up (β := Nat × Bool) (fun (k, f) => [(5, i64 k)]) (fun (k, f) => [(4, .row .var 2 [.agg [i64 n, cond f (ints l) (.loc 5)]]), (5, row (cond f [] (formK n l k)))]) [1] (fun (k, f) => k ≤ n.toNat ∧ (f = true → formK n l k = l)) (fun (k, f) => n.toNat - k) ((0, true)) ?_ ?_ ?_
    · exact ⟨Nat.zero_le _, fun _ => rfl⟩
    · refine weak.mk [1] [0, 1, 2, 3, 4, 5] rfl rfl ?_ ?_
      repeat' first | exact trivial | exact rfl | exact Iff.rfl | assumption | refine And.intro ?_ ?_
    · rintro ⟨k, f⟩ ⟨hk, hf⟩ R hR
      obtain ⟨f1, f2⟩ := formK_crowd hc k
      obtain ⟨t1, t2⟩ := trn_crowd (s := (k : Int)) hc
      obtain ⟨w1, w2⟩ := trn_crowd (s := (k : Int)) m1
      have hst : formK n l (k + 1) = less2 (trn n k (mir n l)) (less2 (trn n k l) (formK n l k)) := rfl
      by_cases hkn : k < n.toNat
      · cases f
        · by_cases ht : cmpL (trn n k l) (formK n l k) < 0
          · by_cases hw : cmpL (trn n k (mir n l)) (trn n k l) < 0
            · refine Z ?_
              refine tY oky ?_; refine callW.mk [] 6 _ _ _ (l10Turned_c _ _ _ oka oka) rfl rfl trivial nofun ?_; iterate 7 refine Z ?_
              refine callW.mk [] 8 _ _ _ (l10Less_c _ _ oka oka) rfl rfl trivial nofun ?_; refine tY oky ?_; iterate 4 refine Z ?_
              refine callW.mk [] 8 _ _ _ (l10Turned_c _ _ _ oka oka) rfl rfl trivial nofun ?_; iterate 7 refine Z ?_
              refine callW.mk [] 10 _ _ _ (l10Less_c _ _ oka oka) rfl rfl trivial nofun ?_; refine tY oky ?_; iterate 4 refine Z ?_
              refine nw (by omega) (by omega) ?_; rotate_left; refine hR ((k + 1, false)) _ _ ?_ ?_; rotate_left; refine weak.mk [] [0, 1, 2, 3, 4, 8] rfl rfl ?_ ?_
              repeat' first | exact trivial | exact rfl | exact Iff.rfl | assumption | exact pureI | exact (show _ = _ by omega) | exact (show _ ≤ _ by omega) | exact (show _ < _ by omega) | exact (show ¬ _ by omega) | refine And.intro ?_ ?_
              rotate_right
              · exact ⟨⟨by omega, nofun⟩, by show n.toNat - (k + 1) < n.toNat - k; omega⟩
              · show List.map i64 (trn n k (mir n l)) = List.map i64 (formK n l (k + 1))
                rw [hst, less2_yes ht, less2_yes hw]
            · refine Z ?_
              refine tY oky ?_; refine callW.mk [] 6 _ _ _ (l10Turned_c _ _ _ oka oka) rfl rfl trivial nofun ?_; iterate 7 refine Z ?_
              refine callW.mk [] 8 _ _ _ (l10Less_c _ _ oka oka) rfl rfl trivial nofun ?_; refine tY oky ?_; iterate 4 refine Z ?_
              refine callW.mk [] 8 _ _ _ (l10Turned_c _ _ _ oka oka) rfl rfl trivial nofun ?_; iterate 7 refine Z ?_
              refine callW.mk [] 10 _ _ _ (l10Less_c _ _ oka oka) rfl rfl trivial nofun ?_; refine tN okn ?_; refine nw (by omega) (by omega) ?_; rotate_left; refine hR ((k + 1, false)) _ _ ?_ ?_; rotate_left; refine weak.mk [] [0, 1, 2, 3, 4, 6] rfl rfl ?_ ?_
              repeat' first | exact trivial | exact rfl | exact Iff.rfl | assumption | exact pureI | exact (show _ = _ by omega) | exact (show _ ≤ _ by omega) | exact (show _ < _ by omega) | exact (show ¬ _ by omega) | refine And.intro ?_ ?_
              rotate_right
              · exact ⟨⟨by omega, nofun⟩, by show n.toNat - (k + 1) < n.toNat - k; omega⟩
              · show List.map i64 (trn n k l) = List.map i64 (formK n l (k + 1))
                rw [hst, less2_yes ht, less2_no hw]
          · by_cases hw : cmpL (trn n k (mir n l)) (formK n l k) < 0
            · refine Z ?_
              refine tY oky ?_; refine callW.mk [] 6 _ _ _ (l10Turned_c _ _ _ oka oka) rfl rfl trivial nofun ?_; iterate 7 refine Z ?_
              refine callW.mk [] 8 _ _ _ (l10Less_c _ _ oka oka) rfl rfl trivial nofun ?_; refine tN okn ?_; refine callW.mk [] 8 _ _ _ (l10Turned_c _ _ _ oka oka) rfl rfl trivial nofun ?_; iterate 7 refine Z ?_
              refine callW.mk [] 10 _ _ _ (l10Less_c _ _ oka oka) rfl rfl trivial nofun ?_; refine tY oky ?_; iterate 4 refine Z ?_
              refine nw (by omega) (by omega) ?_; rotate_left; refine hR ((k + 1, false)) _ _ ?_ ?_; rotate_left; refine weak.mk [] [0, 1, 2, 3, 4, 8] rfl rfl ?_ ?_
              repeat' first | exact trivial | exact rfl | exact Iff.rfl | assumption | exact pureI | exact (show _ = _ by omega) | exact (show _ ≤ _ by omega) | exact (show _ < _ by omega) | exact (show ¬ _ by omega) | refine And.intro ?_ ?_
              rotate_right
              · exact ⟨⟨by omega, nofun⟩, by show n.toNat - (k + 1) < n.toNat - k; omega⟩
              · show List.map i64 (trn n k (mir n l)) = List.map i64 (formK n l (k + 1))
                rw [hst, less2_no ht, less2_yes hw]
            · refine Z ?_
              refine tY oky ?_; refine callW.mk [] 6 _ _ _ (l10Turned_c _ _ _ oka oka) rfl rfl trivial nofun ?_; iterate 7 refine Z ?_
              refine callW.mk [] 8 _ _ _ (l10Less_c _ _ oka oka) rfl rfl trivial nofun ?_; refine tN okn ?_; refine callW.mk [] 8 _ _ _ (l10Turned_c _ _ _ oka oka) rfl rfl trivial nofun ?_; iterate 7 refine Z ?_
              refine callW.mk [] 10 _ _ _ (l10Less_c _ _ oka oka) rfl rfl trivial nofun ?_; refine tN okn ?_; refine nw (by omega) (by omega) ?_; rotate_left; refine hR ((k + 1, false)) _ _ ?_ (weak.mk [] [0, 1, 2, 3, 4, 5] rfl rfl ?_ ?_)
              repeat' first | exact trivial | exact rfl | exact Iff.rfl | assumption | refine And.intro ?_ ?_
              · exact ⟨⟨by omega, nofun⟩, by show n.toNat - (k + 1) < n.toNat - k; omega⟩
              · show List.map i64 (formK n l k) = List.map i64 (formK n l (k + 1))
                rw [hst, less2_no ht, less2_no hw]
        · have hfl := hf rfl
          rw [hfl] at hst
          by_cases ht : cmpL (trn n k l) l < 0
          · by_cases hw : cmpL (trn n k (mir n l)) (trn n k l) < 0
            · refine Z ?_
              refine tY oky ?_; refine callW.mk [] 6 _ _ _ (l10Turned_c _ _ _ oka oka) rfl rfl trivial nofun ?_; iterate 7 refine Z ?_
              refine callW.mk [] 8 _ _ _ (l10Less_c _ _ oka oka) rfl rfl trivial nofun ?_; refine tY oky ?_; iterate 4 refine Z ?_
              refine callW.mk [] 8 _ _ _ (l10Turned_c _ _ _ oka oka) rfl rfl trivial nofun ?_; iterate 7 refine Z ?_
              refine callW.mk [] 10 _ _ _ (l10Less_c _ _ oka oka) rfl rfl trivial nofun ?_; refine tY oky ?_; iterate 4 refine Z ?_
              refine nw (by omega) (by omega) ?_; rotate_left; refine hR ((k + 1, false)) _ _ ?_ ?_; rotate_left; refine weak.mk [] [0, 1, 2, 3, 4, 8] rfl rfl ?_ ?_
              repeat' first | exact trivial | exact rfl | exact Iff.rfl | assumption | exact pureI | exact (show _ = _ by omega) | exact (show _ ≤ _ by omega) | exact (show _ < _ by omega) | exact (show ¬ _ by omega) | refine And.intro ?_ ?_
              rotate_right
              · exact ⟨⟨by omega, nofun⟩, by show n.toNat - (k + 1) < n.toNat - k; omega⟩
              · show List.map i64 (trn n k (mir n l)) = List.map i64 (formK n l (k + 1))
                rw [hst, less2_yes ht, less2_yes hw]
            · refine Z ?_
              refine tY oky ?_; refine callW.mk [] 6 _ _ _ (l10Turned_c _ _ _ oka oka) rfl rfl trivial nofun ?_; iterate 7 refine Z ?_
              refine callW.mk [] 8 _ _ _ (l10Less_c _ _ oka oka) rfl rfl trivial nofun ?_; refine tY oky ?_; iterate 4 refine Z ?_
              refine callW.mk [] 8 _ _ _ (l10Turned_c _ _ _ oka oka) rfl rfl trivial nofun ?_; iterate 7 refine Z ?_
              refine callW.mk [] 10 _ _ _ (l10Less_c _ _ oka oka) rfl rfl trivial nofun ?_; refine tN okn ?_; refine nw (by omega) (by omega) ?_; rotate_left; refine hR ((k + 1, false)) _ _ ?_ ?_; rotate_left; refine weak.mk [] [0, 1, 2, 3, 4, 6] rfl rfl ?_ ?_
              repeat' first | exact trivial | exact rfl | exact Iff.rfl | assumption | exact pureI | exact (show _ = _ by omega) | exact (show _ ≤ _ by omega) | exact (show _ < _ by omega) | exact (show ¬ _ by omega) | refine And.intro ?_ ?_
              rotate_right
              · exact ⟨⟨by omega, nofun⟩, by show n.toNat - (k + 1) < n.toNat - k; omega⟩
              · show List.map i64 (trn n k l) = List.map i64 (formK n l (k + 1))
                rw [hst, less2_yes ht, less2_no hw]
          · by_cases hw : cmpL (trn n k (mir n l)) l < 0
            · refine Z ?_
              refine tY oky ?_; refine callW.mk [] 6 _ _ _ (l10Turned_c _ _ _ oka oka) rfl rfl trivial nofun ?_; iterate 7 refine Z ?_
              refine callW.mk [] 8 _ _ _ (l10Less_c _ _ oka oka) rfl rfl trivial nofun ?_; refine tN okn ?_; refine callW.mk [] 8 _ _ _ (l10Turned_c _ _ _ oka oka) rfl rfl trivial nofun ?_; iterate 7 refine Z ?_
              refine callW.mk [] 10 _ _ _ (l10Less_c _ _ oka oka) rfl rfl trivial nofun ?_; refine tY oky ?_; iterate 4 refine Z ?_
              refine nw (by omega) (by omega) ?_; rotate_left; refine hR ((k + 1, false)) _ _ ?_ ?_; rotate_left; refine weak.mk [] [0, 1, 2, 3, 4, 8] rfl rfl ?_ ?_
              repeat' first | exact trivial | exact rfl | exact Iff.rfl | assumption | exact pureI | exact (show _ = _ by omega) | exact (show _ ≤ _ by omega) | exact (show _ < _ by omega) | exact (show ¬ _ by omega) | refine And.intro ?_ ?_
              rotate_right
              · exact ⟨⟨by omega, nofun⟩, by show n.toNat - (k + 1) < n.toNat - k; omega⟩
              · show List.map i64 (trn n k (mir n l)) = List.map i64 (formK n l (k + 1))
                rw [hst, less2_no ht, less2_yes hw]
            · refine Z ?_
              refine tY oky ?_; refine callW.mk [] 6 _ _ _ (l10Turned_c _ _ _ oka oka) rfl rfl trivial nofun ?_; iterate 7 refine Z ?_
              refine callW.mk [] 8 _ _ _ (l10Less_c _ _ oka oka) rfl rfl trivial nofun ?_; refine tN okn ?_; refine callW.mk [] 8 _ _ _ (l10Turned_c _ _ _ oka oka) rfl rfl trivial nofun ?_; iterate 7 refine Z ?_
              refine callW.mk [] 10 _ _ _ (l10Less_c _ _ oka oka) rfl rfl trivial nofun ?_; refine tN okn ?_; refine nw (by omega) (by omega) ?_; rotate_left; refine hR ((k + 1, true)) _ _ ?_ (weak.mk [] [0, 1, 2, 3, 4, 5] rfl rfl ?_ ?_)
              repeat' first | exact trivial | exact rfl | exact Iff.rfl | assumption | refine And.intro ?_ ?_
              · exact ⟨⟨by omega, fun _ => by rw [hst, less2_no ht, less2_no hw]⟩, by show n.toNat - (k + 1) < n.toNat - k; omega⟩
      · have e : k = n.toNat := by omega
        cases f
        · refine Z ?_
          refine tN okn ?_; refine drawP.mkS (Z (Z ?_)); refine Z ?_
          apply exP.mk
          refine Z ?_
          exact rfl
          apply exP.mk
          exact rfl
          apply exP.mk
          refine Z ?_
          exact rfl
          apply exP.mk
          exact rfl
          refine callW.mk [] 6 _ _ _ (l1Own_c _ oka) rfl rfl trivial nofun ?_; refine Z ?_; refine And.intro ?_ ?_; refine Z ?_
          exact rfl
          refine Z ?_
          apply exP.mk
          iterate 7 refine Z ?_
          exact rfl
          iterate 5 refine Z ?_
          rotate_left; refine doneV.mk [] [6] rfl rfl ?_ ?_ ?_
          repeat' first | exact trivial | exact rfl | exact Iff.rfl | assumption | exact pureI | exact (show _ = _ by omega) | exact (show _ ≤ _ by omega) | exact (show _ < _ by omega) | exact (show ¬ _ by omega) | refine And.intro ?_ ?_
          exact map_congr (show formK n l k = formR n l from by unfold formR; rw [← e])
        · have hfl := hf rfl
          refine Z ?_; refine tN okn ?_; refine drawP.mkS (Z (Z ?_)); refine Z ?_
          apply exP.mk
          refine Z ?_
          exact rfl
          apply exP.mk
          exact rfl
          apply exP.mk
          refine Z ?_
          exact rfl
          apply exP.mk
          exact rfl
          refine callW.mk [] 6 _ _ _ (l1Own_c _ oka) rfl rfl trivial nofun ?_; refine Z ?_; refine And.intro ?_ ?_; refine Z ?_
          exact rfl
          refine Z ?_
          apply exP.mk
          iterate 7 refine Z ?_
          exact rfl
          iterate 5 refine Z ?_
          rotate_left; refine doneV.mk [] [6] rfl rfl ?_ ?_ ?_
          repeat' first | exact trivial | exact rfl | exact Iff.rfl | assumption | exact pureI | exact (show _ = _ by omega) | exact (show _ ≤ _ by omega) | exact (show _ < _ by omega) | exact (show ¬ _ by omega) | refine And.intro ?_ ?_
          exact map_congr (show l = formR n l from by unfold formR; rw [← e]; exact hfl.symm)
  · refine loop_up (β := Nat × Bool) (fun (k, f) => [(5, i64 k)]) (fun (k, f) => [(2, .row .var 2 [.agg [i64 n, cond f (ints l) (.loc 5)]]), (5, row (cond f [] (formK n l k)))]) [1] (fun (k, f) => k ≤ n.toNat ∧ (f = true → formK n l k = l)) (fun (k, f) => n.toNat - k) ((0, true)) ?_ ?_ ?_
    · exact ⟨Nat.zero_le _, fun _ => rfl⟩
    · refine weak.mk [1] [0, 1, 2, 3, 4, 5] rfl rfl ?_ ?_
      repeat' first | exact trivial | exact rfl | exact Iff.rfl | assumption | refine And.intro ?_ ?_
    · rintro ⟨k, f⟩ ⟨hk, hf⟩ R hR
      obtain ⟨f1, f2⟩ := formK_crowd hc k
      obtain ⟨t1, t2⟩ := trn_crowd (s := (k : Int)) hc
      obtain ⟨w1, w2⟩ := trn_crowd (s := (k : Int)) m1
      have hst : formK n l (k + 1) = less2 (trn n k (mir n l)) (less2 (trn n k l) (formK n l k)) := rfl
      by_cases hkn : k < n.toNat
      · cases f
        · by_cases ht : cmpL (trn n k l) (formK n l k) < 0
          · by_cases hw : cmpL (trn n k (mir n l)) (trn n k l) < 0
            · refine Z ?_
              refine tY oky ?_; refine callW.mk [] 6 _ _ _ (l10Turned_c _ _ _ oka oka) rfl rfl trivial nofun ?_; iterate 7 refine Z ?_
              refine callW.mk [] 8 _ _ _ (l10Less_c _ _ oka oka) rfl rfl trivial nofun ?_; refine tY oky ?_; iterate 4 refine Z ?_
              refine callW.mk [] 8 _ _ _ (l10Turned_c _ _ _ oka oka) rfl rfl trivial nofun ?_; iterate 7 refine Z ?_
              refine callW.mk [] 10 _ _ _ (l10Less_c _ _ oka oka) rfl rfl trivial nofun ?_; refine tY oky ?_; iterate 4 refine Z ?_
              refine nw (by omega) (by omega) ?_; rotate_left; refine hR ((k + 1, false)) _ _ ?_ ?_; rotate_left; refine weak.mk [] [0, 1, 2, 3, 4, 8] rfl rfl ?_ ?_
              repeat' first | exact trivial | exact rfl | exact Iff.rfl | assumption | exact pureI | exact (show _ = _ by omega) | exact (show _ ≤ _ by omega) | exact (show _ < _ by omega) | exact (show ¬ _ by omega) | refine And.intro ?_ ?_
              rotate_right
              · exact ⟨⟨by omega, nofun⟩, by show n.toNat - (k + 1) < n.toNat - k; omega⟩
              · show List.map i64 (trn n k (mir n l)) = List.map i64 (formK n l (k + 1))
                rw [hst, less2_yes ht, less2_yes hw]
            · refine Z ?_
              refine tY oky ?_; refine callW.mk [] 6 _ _ _ (l10Turned_c _ _ _ oka oka) rfl rfl trivial nofun ?_; iterate 7 refine Z ?_
              refine callW.mk [] 8 _ _ _ (l10Less_c _ _ oka oka) rfl rfl trivial nofun ?_; refine tY oky ?_; iterate 4 refine Z ?_
              refine callW.mk [] 8 _ _ _ (l10Turned_c _ _ _ oka oka) rfl rfl trivial nofun ?_; iterate 7 refine Z ?_
              refine callW.mk [] 10 _ _ _ (l10Less_c _ _ oka oka) rfl rfl trivial nofun ?_; refine tN okn ?_; refine nw (by omega) (by omega) ?_; rotate_left; refine hR ((k + 1, false)) _ _ ?_ ?_; rotate_left; refine weak.mk [] [0, 1, 2, 3, 4, 6] rfl rfl ?_ ?_
              repeat' first | exact trivial | exact rfl | exact Iff.rfl | assumption | exact pureI | exact (show _ = _ by omega) | exact (show _ ≤ _ by omega) | exact (show _ < _ by omega) | exact (show ¬ _ by omega) | refine And.intro ?_ ?_
              rotate_right
              · exact ⟨⟨by omega, nofun⟩, by show n.toNat - (k + 1) < n.toNat - k; omega⟩
              · show List.map i64 (trn n k l) = List.map i64 (formK n l (k + 1))
                rw [hst, less2_yes ht, less2_no hw]
          · by_cases hw : cmpL (trn n k (mir n l)) (formK n l k) < 0
            · refine Z ?_
              refine tY oky ?_; refine callW.mk [] 6 _ _ _ (l10Turned_c _ _ _ oka oka) rfl rfl trivial nofun ?_; iterate 7 refine Z ?_
              refine callW.mk [] 8 _ _ _ (l10Less_c _ _ oka oka) rfl rfl trivial nofun ?_; refine tN okn ?_; refine callW.mk [] 8 _ _ _ (l10Turned_c _ _ _ oka oka) rfl rfl trivial nofun ?_; iterate 7 refine Z ?_
              refine callW.mk [] 10 _ _ _ (l10Less_c _ _ oka oka) rfl rfl trivial nofun ?_; refine tY oky ?_; iterate 4 refine Z ?_
              refine nw (by omega) (by omega) ?_; rotate_left; refine hR ((k + 1, false)) _ _ ?_ ?_; rotate_left; refine weak.mk [] [0, 1, 2, 3, 4, 8] rfl rfl ?_ ?_
              repeat' first | exact trivial | exact rfl | exact Iff.rfl | assumption | exact pureI | exact (show _ = _ by omega) | exact (show _ ≤ _ by omega) | exact (show _ < _ by omega) | exact (show ¬ _ by omega) | refine And.intro ?_ ?_
              rotate_right
              · exact ⟨⟨by omega, nofun⟩, by show n.toNat - (k + 1) < n.toNat - k; omega⟩
              · show List.map i64 (trn n k (mir n l)) = List.map i64 (formK n l (k + 1))
                rw [hst, less2_no ht, less2_yes hw]
            · refine Z ?_
              refine tY oky ?_; refine callW.mk [] 6 _ _ _ (l10Turned_c _ _ _ oka oka) rfl rfl trivial nofun ?_; iterate 7 refine Z ?_
              refine callW.mk [] 8 _ _ _ (l10Less_c _ _ oka oka) rfl rfl trivial nofun ?_; refine tN okn ?_; refine callW.mk [] 8 _ _ _ (l10Turned_c _ _ _ oka oka) rfl rfl trivial nofun ?_; iterate 7 refine Z ?_
              refine callW.mk [] 10 _ _ _ (l10Less_c _ _ oka oka) rfl rfl trivial nofun ?_; refine tN okn ?_; refine nw (by omega) (by omega) ?_; rotate_left; refine hR ((k + 1, false)) _ _ ?_ (weak.mk [] [0, 1, 2, 3, 4, 5] rfl rfl ?_ ?_)
              repeat' first | exact trivial | exact rfl | exact Iff.rfl | assumption | refine And.intro ?_ ?_
              · exact ⟨⟨by omega, nofun⟩, by show n.toNat - (k + 1) < n.toNat - k; omega⟩
              · show List.map i64 (formK n l k) = List.map i64 (formK n l (k + 1))
                rw [hst, less2_no ht, less2_no hw]
        · have hfl := hf rfl
          rw [hfl] at hst
          by_cases ht : cmpL (trn n k l) l < 0
          · by_cases hw : cmpL (trn n k (mir n l)) (trn n k l) < 0
            · refine Z ?_
              refine tY oky ?_; refine callW.mk [] 6 _ _ _ (l10Turned_c _ _ _ oka oka) rfl rfl trivial nofun ?_; iterate 7 refine Z ?_
              refine callW.mk [] 8 _ _ _ (l10Less_c _ _ oka oka) rfl rfl trivial nofun ?_; refine tY oky ?_; iterate 4 refine Z ?_
              refine callW.mk [] 8 _ _ _ (l10Turned_c _ _ _ oka oka) rfl rfl trivial nofun ?_; iterate 7 refine Z ?_
              refine callW.mk [] 10 _ _ _ (l10Less_c _ _ oka oka) rfl rfl trivial nofun ?_; refine tY oky ?_; iterate 4 refine Z ?_
              refine nw (by omega) (by omega) ?_; rotate_left; refine hR ((k + 1, false)) _ _ ?_ ?_; rotate_left; refine weak.mk [] [0, 1, 2, 3, 4, 8] rfl rfl ?_ ?_
              repeat' first | exact trivial | exact rfl | exact Iff.rfl | assumption | exact pureI | exact (show _ = _ by omega) | exact (show _ ≤ _ by omega) | exact (show _ < _ by omega) | exact (show ¬ _ by omega) | refine And.intro ?_ ?_
              rotate_right
              · exact ⟨⟨by omega, nofun⟩, by show n.toNat - (k + 1) < n.toNat - k; omega⟩
              · show List.map i64 (trn n k (mir n l)) = List.map i64 (formK n l (k + 1))
                rw [hst, less2_yes ht, less2_yes hw]
            · refine Z ?_
              refine tY oky ?_; refine callW.mk [] 6 _ _ _ (l10Turned_c _ _ _ oka oka) rfl rfl trivial nofun ?_; iterate 7 refine Z ?_
              refine callW.mk [] 8 _ _ _ (l10Less_c _ _ oka oka) rfl rfl trivial nofun ?_; refine tY oky ?_; iterate 4 refine Z ?_
              refine callW.mk [] 8 _ _ _ (l10Turned_c _ _ _ oka oka) rfl rfl trivial nofun ?_; iterate 7 refine Z ?_
              refine callW.mk [] 10 _ _ _ (l10Less_c _ _ oka oka) rfl rfl trivial nofun ?_; refine tN okn ?_; refine nw (by omega) (by omega) ?_; rotate_left; refine hR ((k + 1, false)) _ _ ?_ ?_; rotate_left; refine weak.mk [] [0, 1, 2, 3, 4, 6] rfl rfl ?_ ?_
              repeat' first | exact trivial | exact rfl | exact Iff.rfl | assumption | exact pureI | exact (show _ = _ by omega) | exact (show _ ≤ _ by omega) | exact (show _ < _ by omega) | exact (show ¬ _ by omega) | refine And.intro ?_ ?_
              rotate_right
              · exact ⟨⟨by omega, nofun⟩, by show n.toNat - (k + 1) < n.toNat - k; omega⟩
              · show List.map i64 (trn n k l) = List.map i64 (formK n l (k + 1))
                rw [hst, less2_yes ht, less2_no hw]
          · by_cases hw : cmpL (trn n k (mir n l)) l < 0
            · refine Z ?_
              refine tY oky ?_; refine callW.mk [] 6 _ _ _ (l10Turned_c _ _ _ oka oka) rfl rfl trivial nofun ?_; iterate 7 refine Z ?_
              refine callW.mk [] 8 _ _ _ (l10Less_c _ _ oka oka) rfl rfl trivial nofun ?_; refine tN okn ?_; refine callW.mk [] 8 _ _ _ (l10Turned_c _ _ _ oka oka) rfl rfl trivial nofun ?_; iterate 7 refine Z ?_
              refine callW.mk [] 10 _ _ _ (l10Less_c _ _ oka oka) rfl rfl trivial nofun ?_; refine tY oky ?_; iterate 4 refine Z ?_
              refine nw (by omega) (by omega) ?_; rotate_left; refine hR ((k + 1, false)) _ _ ?_ ?_; rotate_left; refine weak.mk [] [0, 1, 2, 3, 4, 8] rfl rfl ?_ ?_
              repeat' first | exact trivial | exact rfl | exact Iff.rfl | assumption | exact pureI | exact (show _ = _ by omega) | exact (show _ ≤ _ by omega) | exact (show _ < _ by omega) | exact (show ¬ _ by omega) | refine And.intro ?_ ?_
              rotate_right
              · exact ⟨⟨by omega, nofun⟩, by show n.toNat - (k + 1) < n.toNat - k; omega⟩
              · show List.map i64 (trn n k (mir n l)) = List.map i64 (formK n l (k + 1))
                rw [hst, less2_no ht, less2_yes hw]
            · refine Z ?_
              refine tY oky ?_; refine callW.mk [] 6 _ _ _ (l10Turned_c _ _ _ oka oka) rfl rfl trivial nofun ?_; iterate 7 refine Z ?_
              refine callW.mk [] 8 _ _ _ (l10Less_c _ _ oka oka) rfl rfl trivial nofun ?_; refine tN okn ?_; refine callW.mk [] 8 _ _ _ (l10Turned_c _ _ _ oka oka) rfl rfl trivial nofun ?_; iterate 7 refine Z ?_
              refine callW.mk [] 10 _ _ _ (l10Less_c _ _ oka oka) rfl rfl trivial nofun ?_; refine tN okn ?_; refine nw (by omega) (by omega) ?_; rotate_left; refine hR ((k + 1, true)) _ _ ?_ (weak.mk [] [0, 1, 2, 3, 4, 5] rfl rfl ?_ ?_)
              repeat' first | exact trivial | exact rfl | exact Iff.rfl | assumption | refine And.intro ?_ ?_
              · exact ⟨⟨by omega, fun _ => by rw [hst, less2_no ht, less2_no hw]⟩, by show n.toNat - (k + 1) < n.toNat - k; omega⟩
      · have e : k = n.toNat := by omega
        cases f
        · refine Z ?_
          refine tN okn ?_; refine drawP.mkS (Z (Z ?_)); refine Z ?_
          apply exP.mk
          refine Z ?_
          exact rfl
          apply exP.mk
          exact rfl
          apply exP.mk
          refine Z ?_
          exact rfl
          apply exP.mk
          exact rfl
          refine callW.mk [] 6 _ _ _ (l1Own_c _ oka) rfl rfl trivial nofun ?_; refine Z ?_; refine And.intro ?_ ?_; refine Z ?_
          exact rfl
          refine Z ?_
          apply exP.mk
          iterate 7 refine Z ?_
          exact rfl
          iterate 5 refine Z ?_
          rotate_left; refine doneV.mk [] [6] rfl rfl ?_ ?_ ?_
          repeat' first | exact trivial | exact rfl | exact Iff.rfl | assumption | exact pureI | exact (show _ = _ by omega) | exact (show _ ≤ _ by omega) | exact (show _ < _ by omega) | exact (show ¬ _ by omega) | refine And.intro ?_ ?_
          exact map_congr (show formK n l k = formR n l from by unfold formR; rw [← e])
        · have hfl := hf rfl
          refine Z ?_; refine tN okn ?_; refine drawP.mkS (Z (Z ?_)); refine Z ?_
          apply exP.mk
          refine Z ?_
          exact rfl
          apply exP.mk
          exact rfl
          apply exP.mk
          refine Z ?_
          exact rfl
          apply exP.mk
          exact rfl
          refine callW.mk [] 6 _ _ _ (l1Own_c _ oka) rfl rfl trivial nofun ?_; refine Z ?_; refine And.intro ?_ ?_; refine Z ?_
          exact rfl
          refine Z ?_
          apply exP.mk
          iterate 7 refine Z ?_
          exact rfl
          iterate 5 refine Z ?_
          rotate_left; refine doneV.mk [] [6] rfl rfl ?_ ?_ ?_
          repeat' first | exact trivial | exact rfl | exact Iff.rfl | assumption | exact pureI | exact (show _ = _ by omega) | exact (show _ ≤ _ by omega) | exact (show _ < _ by omega) | exact (show ¬ _ by omega) | refine And.intro ?_ ?_
          exact map_congr (show l = formR n l from by unfold formR; rw [← e]; exact hfl.symm)
  · refine loop_up (β := Nat × Bool) (fun (k, f) => [(5, i64 k)]) (fun (k, f) => [(2, .row .var 2 [.agg [i64 n, cond f (ints l) (.loc 5)]]), (5, row (cond f [] (formK n l k)))]) [1] (fun (k, f) => k ≤ n.toNat ∧ (f = true → formK n l k = l)) (fun (k, f) => n.toNat - k) ((0, true)) ?_ ?_ ?_
    · exact ⟨Nat.zero_le _, fun _ => rfl⟩
    · refine weak.mk [1] [0, 1, 2, 3, 4, 5] rfl rfl ?_ ?_
      repeat' first | exact trivial | exact rfl | exact Iff.rfl | assumption | refine And.intro ?_ ?_
    · rintro ⟨k, f⟩ ⟨hk, hf⟩ R hR
      obtain ⟨f1, f2⟩ := formK_crowd hc k
      obtain ⟨t1, t2⟩ := trn_crowd (s := (k : Int)) hc
      obtain ⟨w1, w2⟩ := trn_crowd (s := (k : Int)) m1
      have hst : formK n l (k + 1) = less2 (trn n k (mir n l)) (less2 (trn n k l) (formK n l k)) := rfl
      by_cases hkn : k < n.toNat
      · cases f
        · by_cases ht : cmpL (trn n k l) (formK n l k) < 0
          · by_cases hw : cmpL (trn n k (mir n l)) (trn n k l) < 0
            · refine Z ?_
              refine tY oky ?_; refine callW.mk [] 6 _ _ _ (l10Turned_c _ _ _ oka oka) rfl rfl trivial nofun ?_; iterate 7 refine Z ?_
              refine callW.mk [] 8 _ _ _ (l10Less_c _ _ oka oka) rfl rfl trivial nofun ?_; refine tY oky ?_; iterate 4 refine Z ?_
              refine callW.mk [] 8 _ _ _ (l10Turned_c _ _ _ oka oka) rfl rfl trivial nofun ?_; iterate 7 refine Z ?_
              refine callW.mk [] 10 _ _ _ (l10Less_c _ _ oka oka) rfl rfl trivial nofun ?_; refine tY oky ?_; iterate 4 refine Z ?_
              refine nw (by omega) (by omega) ?_; rotate_left; refine hR ((k + 1, false)) _ _ ?_ ?_; rotate_left; refine weak.mk [] [0, 1, 2, 3, 4, 8] rfl rfl ?_ ?_
              repeat' first | exact trivial | exact rfl | exact Iff.rfl | assumption | exact pureI | exact (show _ = _ by omega) | exact (show _ ≤ _ by omega) | exact (show _ < _ by omega) | exact (show ¬ _ by omega) | refine And.intro ?_ ?_
              rotate_right
              · exact ⟨⟨by omega, nofun⟩, by show n.toNat - (k + 1) < n.toNat - k; omega⟩
              · show List.map i64 (trn n k (mir n l)) = List.map i64 (formK n l (k + 1))
                rw [hst, less2_yes ht, less2_yes hw]
            · refine Z ?_
              refine tY oky ?_; refine callW.mk [] 6 _ _ _ (l10Turned_c _ _ _ oka oka) rfl rfl trivial nofun ?_; iterate 7 refine Z ?_
              refine callW.mk [] 8 _ _ _ (l10Less_c _ _ oka oka) rfl rfl trivial nofun ?_; refine tY oky ?_; iterate 4 refine Z ?_
              refine callW.mk [] 8 _ _ _ (l10Turned_c _ _ _ oka oka) rfl rfl trivial nofun ?_; iterate 7 refine Z ?_
              refine callW.mk [] 10 _ _ _ (l10Less_c _ _ oka oka) rfl rfl trivial nofun ?_; refine tN okn ?_; refine nw (by omega) (by omega) ?_; rotate_left; refine hR ((k + 1, false)) _ _ ?_ ?_; rotate_left; refine weak.mk [] [0, 1, 2, 3, 4, 6] rfl rfl ?_ ?_
              repeat' first | exact trivial | exact rfl | exact Iff.rfl | assumption | exact pureI | exact (show _ = _ by omega) | exact (show _ ≤ _ by omega) | exact (show _ < _ by omega) | exact (show ¬ _ by omega) | refine And.intro ?_ ?_
              rotate_right
              · exact ⟨⟨by omega, nofun⟩, by show n.toNat - (k + 1) < n.toNat - k; omega⟩
              · show List.map i64 (trn n k l) = List.map i64 (formK n l (k + 1))
                rw [hst, less2_yes ht, less2_no hw]
          · by_cases hw : cmpL (trn n k (mir n l)) (formK n l k) < 0
            · refine Z ?_
              refine tY oky ?_; refine callW.mk [] 6 _ _ _ (l10Turned_c _ _ _ oka oka) rfl rfl trivial nofun ?_; iterate 7 refine Z ?_
              refine callW.mk [] 8 _ _ _ (l10Less_c _ _ oka oka) rfl rfl trivial nofun ?_; refine tN okn ?_; refine callW.mk [] 8 _ _ _ (l10Turned_c _ _ _ oka oka) rfl rfl trivial nofun ?_; iterate 7 refine Z ?_
              refine callW.mk [] 10 _ _ _ (l10Less_c _ _ oka oka) rfl rfl trivial nofun ?_; refine tY oky ?_; iterate 4 refine Z ?_
              refine nw (by omega) (by omega) ?_; rotate_left; refine hR ((k + 1, false)) _ _ ?_ ?_; rotate_left; refine weak.mk [] [0, 1, 2, 3, 4, 8] rfl rfl ?_ ?_
              repeat' first | exact trivial | exact rfl | exact Iff.rfl | assumption | exact pureI | exact (show _ = _ by omega) | exact (show _ ≤ _ by omega) | exact (show _ < _ by omega) | exact (show ¬ _ by omega) | refine And.intro ?_ ?_
              rotate_right
              · exact ⟨⟨by omega, nofun⟩, by show n.toNat - (k + 1) < n.toNat - k; omega⟩
              · show List.map i64 (trn n k (mir n l)) = List.map i64 (formK n l (k + 1))
                rw [hst, less2_no ht, less2_yes hw]
            · refine Z ?_
              refine tY oky ?_; refine callW.mk [] 6 _ _ _ (l10Turned_c _ _ _ oka oka) rfl rfl trivial nofun ?_; iterate 7 refine Z ?_
              refine callW.mk [] 8 _ _ _ (l10Less_c _ _ oka oka) rfl rfl trivial nofun ?_; refine tN okn ?_; refine callW.mk [] 8 _ _ _ (l10Turned_c _ _ _ oka oka) rfl rfl trivial nofun ?_; iterate 7 refine Z ?_
              refine callW.mk [] 10 _ _ _ (l10Less_c _ _ oka oka) rfl rfl trivial nofun ?_; refine tN okn ?_; refine nw (by omega) (by omega) ?_; rotate_left; refine hR ((k + 1, false)) _ _ ?_ (weak.mk [] [0, 1, 2, 3, 4, 5] rfl rfl ?_ ?_)
              repeat' first | exact trivial | exact rfl | exact Iff.rfl | assumption | refine And.intro ?_ ?_
              · exact ⟨⟨by omega, nofun⟩, by show n.toNat - (k + 1) < n.toNat - k; omega⟩
              · show List.map i64 (formK n l k) = List.map i64 (formK n l (k + 1))
                rw [hst, less2_no ht, less2_no hw]
        · have hfl := hf rfl
          rw [hfl] at hst
          by_cases ht : cmpL (trn n k l) l < 0
          · by_cases hw : cmpL (trn n k (mir n l)) (trn n k l) < 0
            · refine Z ?_
              refine tY oky ?_; refine callW.mk [] 6 _ _ _ (l10Turned_c _ _ _ oka oka) rfl rfl trivial nofun ?_; iterate 7 refine Z ?_
              refine callW.mk [] 8 _ _ _ (l10Less_c _ _ oka oka) rfl rfl trivial nofun ?_; refine tY oky ?_; iterate 4 refine Z ?_
              refine callW.mk [] 8 _ _ _ (l10Turned_c _ _ _ oka oka) rfl rfl trivial nofun ?_; iterate 7 refine Z ?_
              refine callW.mk [] 10 _ _ _ (l10Less_c _ _ oka oka) rfl rfl trivial nofun ?_; refine tY oky ?_; iterate 4 refine Z ?_
              refine nw (by omega) (by omega) ?_; rotate_left; refine hR ((k + 1, false)) _ _ ?_ ?_; rotate_left; refine weak.mk [] [0, 1, 2, 3, 4, 8] rfl rfl ?_ ?_
              repeat' first | exact trivial | exact rfl | exact Iff.rfl | assumption | exact pureI | exact (show _ = _ by omega) | exact (show _ ≤ _ by omega) | exact (show _ < _ by omega) | exact (show ¬ _ by omega) | refine And.intro ?_ ?_
              rotate_right
              · exact ⟨⟨by omega, nofun⟩, by show n.toNat - (k + 1) < n.toNat - k; omega⟩
              · show List.map i64 (trn n k (mir n l)) = List.map i64 (formK n l (k + 1))
                rw [hst, less2_yes ht, less2_yes hw]
            · refine Z ?_
              refine tY oky ?_; refine callW.mk [] 6 _ _ _ (l10Turned_c _ _ _ oka oka) rfl rfl trivial nofun ?_; iterate 7 refine Z ?_
              refine callW.mk [] 8 _ _ _ (l10Less_c _ _ oka oka) rfl rfl trivial nofun ?_; refine tY oky ?_; iterate 4 refine Z ?_
              refine callW.mk [] 8 _ _ _ (l10Turned_c _ _ _ oka oka) rfl rfl trivial nofun ?_; iterate 7 refine Z ?_
              refine callW.mk [] 10 _ _ _ (l10Less_c _ _ oka oka) rfl rfl trivial nofun ?_; refine tN okn ?_; refine nw (by omega) (by omega) ?_; rotate_left; refine hR ((k + 1, false)) _ _ ?_ ?_; rotate_left; refine weak.mk [] [0, 1, 2, 3, 4, 6] rfl rfl ?_ ?_
              repeat' first | exact trivial | exact rfl | exact Iff.rfl | assumption | exact pureI | exact (show _ = _ by omega) | exact (show _ ≤ _ by omega) | exact (show _ < _ by omega) | exact (show ¬ _ by omega) | refine And.intro ?_ ?_
              rotate_right
              · exact ⟨⟨by omega, nofun⟩, by show n.toNat - (k + 1) < n.toNat - k; omega⟩
              · show List.map i64 (trn n k l) = List.map i64 (formK n l (k + 1))
                rw [hst, less2_yes ht, less2_no hw]
          · by_cases hw : cmpL (trn n k (mir n l)) l < 0
            · refine Z ?_
              refine tY oky ?_; refine callW.mk [] 6 _ _ _ (l10Turned_c _ _ _ oka oka) rfl rfl trivial nofun ?_; iterate 7 refine Z ?_
              refine callW.mk [] 8 _ _ _ (l10Less_c _ _ oka oka) rfl rfl trivial nofun ?_; refine tN okn ?_; refine callW.mk [] 8 _ _ _ (l10Turned_c _ _ _ oka oka) rfl rfl trivial nofun ?_; iterate 7 refine Z ?_
              refine callW.mk [] 10 _ _ _ (l10Less_c _ _ oka oka) rfl rfl trivial nofun ?_; refine tY oky ?_; iterate 4 refine Z ?_
              refine nw (by omega) (by omega) ?_; rotate_left; refine hR ((k + 1, false)) _ _ ?_ ?_; rotate_left; refine weak.mk [] [0, 1, 2, 3, 4, 8] rfl rfl ?_ ?_
              repeat' first | exact trivial | exact rfl | exact Iff.rfl | assumption | exact pureI | exact (show _ = _ by omega) | exact (show _ ≤ _ by omega) | exact (show _ < _ by omega) | exact (show ¬ _ by omega) | refine And.intro ?_ ?_
              rotate_right
              · exact ⟨⟨by omega, nofun⟩, by show n.toNat - (k + 1) < n.toNat - k; omega⟩
              · show List.map i64 (trn n k (mir n l)) = List.map i64 (formK n l (k + 1))
                rw [hst, less2_no ht, less2_yes hw]
            · refine Z ?_
              refine tY oky ?_; refine callW.mk [] 6 _ _ _ (l10Turned_c _ _ _ oka oka) rfl rfl trivial nofun ?_; iterate 7 refine Z ?_
              refine callW.mk [] 8 _ _ _ (l10Less_c _ _ oka oka) rfl rfl trivial nofun ?_; refine tN okn ?_; refine callW.mk [] 8 _ _ _ (l10Turned_c _ _ _ oka oka) rfl rfl trivial nofun ?_; iterate 7 refine Z ?_
              refine callW.mk [] 10 _ _ _ (l10Less_c _ _ oka oka) rfl rfl trivial nofun ?_; refine tN okn ?_; refine nw (by omega) (by omega) ?_; rotate_left; refine hR ((k + 1, true)) _ _ ?_ (weak.mk [] [0, 1, 2, 3, 4, 5] rfl rfl ?_ ?_)
              repeat' first | exact trivial | exact rfl | exact Iff.rfl | assumption | refine And.intro ?_ ?_
              · exact ⟨⟨by omega, fun _ => by rw [hst, less2_no ht, less2_no hw]⟩, by show n.toNat - (k + 1) < n.toNat - k; omega⟩
      · have e : k = n.toNat := by omega
        cases f
        · refine Z ?_
          refine tN okn ?_; refine drawP.mkS (Z (Z ?_)); refine Z ?_
          apply exP.mk
          refine Z ?_
          exact rfl
          apply exP.mk
          exact rfl
          apply exP.mk
          refine Z ?_
          exact rfl
          apply exP.mk
          exact rfl
          refine callW.mk [] 6 _ _ _ (l1Own_c _ oka) rfl rfl trivial nofun ?_; refine Z ?_; refine And.intro ?_ ?_; refine Z ?_
          exact rfl
          refine Z ?_
          apply exP.mk
          iterate 7 refine Z ?_
          exact rfl
          iterate 5 refine Z ?_
          rotate_left; refine doneV.mk [] [6] rfl rfl ?_ ?_ ?_
          repeat' first | exact trivial | exact rfl | exact Iff.rfl | assumption | exact pureI | exact (show _ = _ by omega) | exact (show _ ≤ _ by omega) | exact (show _ < _ by omega) | exact (show ¬ _ by omega) | refine And.intro ?_ ?_
          exact map_congr (show formK n l k = formR n l from by unfold formR; rw [← e])
        · have hfl := hf rfl
          refine Z ?_; refine tN okn ?_; refine drawP.mkS (Z (Z ?_)); refine Z ?_
          apply exP.mk
          refine Z ?_
          exact rfl
          apply exP.mk
          exact rfl
          apply exP.mk
          refine Z ?_
          exact rfl
          apply exP.mk
          exact rfl
          refine callW.mk [] 6 _ _ _ (l1Own_c _ oka) rfl rfl trivial nofun ?_; refine Z ?_; refine And.intro ?_ ?_; refine Z ?_
          exact rfl
          refine Z ?_
          apply exP.mk
          iterate 7 refine Z ?_
          exact rfl
          iterate 5 refine Z ?_
          rotate_left; refine doneV.mk [] [6] rfl rfl ?_ ?_ ?_
          repeat' first | exact trivial | exact rfl | exact Iff.rfl | assumption | exact pureI | exact (show _ = _ by omega) | exact (show _ ≤ _ by omega) | exact (show _ < _ by omega) | exact (show ¬ _ by omega) | refine And.intro ?_ ?_
          exact map_congr (show l = formR n l from by unfold formR; rw [← e]; exact hfl.symm)
  · refine loop_up (β := Nat × Bool) (fun (k, f) => [(5, i64 k)]) (fun (k, f) => [(4, .row .var 2 [.agg [i64 n, cond f (ints l) (.loc 5)]]), (5, row (cond f [] (formK n l k)))]) [1] (fun (k, f) => k ≤ n.toNat ∧ (f = true → formK n l k = l)) (fun (k, f) => n.toNat - k) ((0, true)) ?_ ?_ ?_
    · exact ⟨Nat.zero_le _, fun _ => rfl⟩
    · refine weak.mk [1] [0, 1, 2, 3, 4, 5] rfl rfl ?_ ?_
      repeat' first | exact trivial | exact rfl | exact Iff.rfl | assumption | refine And.intro ?_ ?_
    · rintro ⟨k, f⟩ ⟨hk, hf⟩ R hR
      obtain ⟨f1, f2⟩ := formK_crowd hc k
      obtain ⟨t1, t2⟩ := trn_crowd (s := (k : Int)) hc
      obtain ⟨w1, w2⟩ := trn_crowd (s := (k : Int)) m1
      have hst : formK n l (k + 1) = less2 (trn n k (mir n l)) (less2 (trn n k l) (formK n l k)) := rfl
      by_cases hkn : k < n.toNat
      · cases f
        · by_cases ht : cmpL (trn n k l) (formK n l k) < 0
          · by_cases hw : cmpL (trn n k (mir n l)) (trn n k l) < 0
            · refine Z ?_
              refine tY oky ?_; refine callW.mk [] 6 _ _ _ (l10Turned_c _ _ _ oka oka) rfl rfl trivial nofun ?_; iterate 7 refine Z ?_
              refine callW.mk [] 8 _ _ _ (l10Less_c _ _ oka oka) rfl rfl trivial nofun ?_; refine tY oky ?_; iterate 4 refine Z ?_
              refine callW.mk [] 8 _ _ _ (l10Turned_c _ _ _ oka oka) rfl rfl trivial nofun ?_; iterate 7 refine Z ?_
              refine callW.mk [] 10 _ _ _ (l10Less_c _ _ oka oka) rfl rfl trivial nofun ?_; refine tY oky ?_; iterate 4 refine Z ?_
              refine nw (by omega) (by omega) ?_; rotate_left; refine hR ((k + 1, false)) _ _ ?_ ?_; rotate_left; refine weak.mk [] [0, 1, 2, 3, 4, 8] rfl rfl ?_ ?_
              repeat' first | exact trivial | exact rfl | exact Iff.rfl | assumption | exact pureI | exact (show _ = _ by omega) | exact (show _ ≤ _ by omega) | exact (show _ < _ by omega) | exact (show ¬ _ by omega) | refine And.intro ?_ ?_
              rotate_right
              · exact ⟨⟨by omega, nofun⟩, by show n.toNat - (k + 1) < n.toNat - k; omega⟩
              · show List.map i64 (trn n k (mir n l)) = List.map i64 (formK n l (k + 1))
                rw [hst, less2_yes ht, less2_yes hw]
            · refine Z ?_
              refine tY oky ?_; refine callW.mk [] 6 _ _ _ (l10Turned_c _ _ _ oka oka) rfl rfl trivial nofun ?_; iterate 7 refine Z ?_
              refine callW.mk [] 8 _ _ _ (l10Less_c _ _ oka oka) rfl rfl trivial nofun ?_; refine tY oky ?_; iterate 4 refine Z ?_
              refine callW.mk [] 8 _ _ _ (l10Turned_c _ _ _ oka oka) rfl rfl trivial nofun ?_; iterate 7 refine Z ?_
              refine callW.mk [] 10 _ _ _ (l10Less_c _ _ oka oka) rfl rfl trivial nofun ?_; refine tN okn ?_; refine nw (by omega) (by omega) ?_; rotate_left; refine hR ((k + 1, false)) _ _ ?_ ?_; rotate_left; refine weak.mk [] [0, 1, 2, 3, 4, 6] rfl rfl ?_ ?_
              repeat' first | exact trivial | exact rfl | exact Iff.rfl | assumption | exact pureI | exact (show _ = _ by omega) | exact (show _ ≤ _ by omega) | exact (show _ < _ by omega) | exact (show ¬ _ by omega) | refine And.intro ?_ ?_
              rotate_right
              · exact ⟨⟨by omega, nofun⟩, by show n.toNat - (k + 1) < n.toNat - k; omega⟩
              · show List.map i64 (trn n k l) = List.map i64 (formK n l (k + 1))
                rw [hst, less2_yes ht, less2_no hw]
          · by_cases hw : cmpL (trn n k (mir n l)) (formK n l k) < 0
            · refine Z ?_
              refine tY oky ?_; refine callW.mk [] 6 _ _ _ (l10Turned_c _ _ _ oka oka) rfl rfl trivial nofun ?_; iterate 7 refine Z ?_
              refine callW.mk [] 8 _ _ _ (l10Less_c _ _ oka oka) rfl rfl trivial nofun ?_; refine tN okn ?_; refine callW.mk [] 8 _ _ _ (l10Turned_c _ _ _ oka oka) rfl rfl trivial nofun ?_; iterate 7 refine Z ?_
              refine callW.mk [] 10 _ _ _ (l10Less_c _ _ oka oka) rfl rfl trivial nofun ?_; refine tY oky ?_; iterate 4 refine Z ?_
              refine nw (by omega) (by omega) ?_; rotate_left; refine hR ((k + 1, false)) _ _ ?_ ?_; rotate_left; refine weak.mk [] [0, 1, 2, 3, 4, 8] rfl rfl ?_ ?_
              repeat' first | exact trivial | exact rfl | exact Iff.rfl | assumption | exact pureI | exact (show _ = _ by omega) | exact (show _ ≤ _ by omega) | exact (show _ < _ by omega) | exact (show ¬ _ by omega) | refine And.intro ?_ ?_
              rotate_right
              · exact ⟨⟨by omega, nofun⟩, by show n.toNat - (k + 1) < n.toNat - k; omega⟩
              · show List.map i64 (trn n k (mir n l)) = List.map i64 (formK n l (k + 1))
                rw [hst, less2_no ht, less2_yes hw]
            · refine Z ?_
              refine tY oky ?_; refine callW.mk [] 6 _ _ _ (l10Turned_c _ _ _ oka oka) rfl rfl trivial nofun ?_; iterate 7 refine Z ?_
              refine callW.mk [] 8 _ _ _ (l10Less_c _ _ oka oka) rfl rfl trivial nofun ?_; refine tN okn ?_; refine callW.mk [] 8 _ _ _ (l10Turned_c _ _ _ oka oka) rfl rfl trivial nofun ?_; iterate 7 refine Z ?_
              refine callW.mk [] 10 _ _ _ (l10Less_c _ _ oka oka) rfl rfl trivial nofun ?_; refine tN okn ?_; refine nw (by omega) (by omega) ?_; rotate_left; refine hR ((k + 1, false)) _ _ ?_ (weak.mk [] [0, 1, 2, 3, 4, 5] rfl rfl ?_ ?_)
              repeat' first | exact trivial | exact rfl | exact Iff.rfl | assumption | refine And.intro ?_ ?_
              · exact ⟨⟨by omega, nofun⟩, by show n.toNat - (k + 1) < n.toNat - k; omega⟩
              · show List.map i64 (formK n l k) = List.map i64 (formK n l (k + 1))
                rw [hst, less2_no ht, less2_no hw]
        · have hfl := hf rfl
          rw [hfl] at hst
          by_cases ht : cmpL (trn n k l) l < 0
          · by_cases hw : cmpL (trn n k (mir n l)) (trn n k l) < 0
            · refine Z ?_
              refine tY oky ?_; refine callW.mk [] 6 _ _ _ (l10Turned_c _ _ _ oka oka) rfl rfl trivial nofun ?_; iterate 7 refine Z ?_
              refine callW.mk [] 8 _ _ _ (l10Less_c _ _ oka oka) rfl rfl trivial nofun ?_; refine tY oky ?_; iterate 4 refine Z ?_
              refine callW.mk [] 8 _ _ _ (l10Turned_c _ _ _ oka oka) rfl rfl trivial nofun ?_; iterate 7 refine Z ?_
              refine callW.mk [] 10 _ _ _ (l10Less_c _ _ oka oka) rfl rfl trivial nofun ?_; refine tY oky ?_; iterate 4 refine Z ?_
              refine nw (by omega) (by omega) ?_; rotate_left; refine hR ((k + 1, false)) _ _ ?_ ?_; rotate_left; refine weak.mk [] [0, 1, 2, 3, 4, 8] rfl rfl ?_ ?_
              repeat' first | exact trivial | exact rfl | exact Iff.rfl | assumption | exact pureI | exact (show _ = _ by omega) | exact (show _ ≤ _ by omega) | exact (show _ < _ by omega) | exact (show ¬ _ by omega) | refine And.intro ?_ ?_
              rotate_right
              · exact ⟨⟨by omega, nofun⟩, by show n.toNat - (k + 1) < n.toNat - k; omega⟩
              · show List.map i64 (trn n k (mir n l)) = List.map i64 (formK n l (k + 1))
                rw [hst, less2_yes ht, less2_yes hw]
            · refine Z ?_
              refine tY oky ?_; refine callW.mk [] 6 _ _ _ (l10Turned_c _ _ _ oka oka) rfl rfl trivial nofun ?_; iterate 7 refine Z ?_
              refine callW.mk [] 8 _ _ _ (l10Less_c _ _ oka oka) rfl rfl trivial nofun ?_; refine tY oky ?_; iterate 4 refine Z ?_
              refine callW.mk [] 8 _ _ _ (l10Turned_c _ _ _ oka oka) rfl rfl trivial nofun ?_; iterate 7 refine Z ?_
              refine callW.mk [] 10 _ _ _ (l10Less_c _ _ oka oka) rfl rfl trivial nofun ?_; refine tN okn ?_; refine nw (by omega) (by omega) ?_; rotate_left; refine hR ((k + 1, false)) _ _ ?_ ?_; rotate_left; refine weak.mk [] [0, 1, 2, 3, 4, 6] rfl rfl ?_ ?_
              repeat' first | exact trivial | exact rfl | exact Iff.rfl | assumption | exact pureI | exact (show _ = _ by omega) | exact (show _ ≤ _ by omega) | exact (show _ < _ by omega) | exact (show ¬ _ by omega) | refine And.intro ?_ ?_
              rotate_right
              · exact ⟨⟨by omega, nofun⟩, by show n.toNat - (k + 1) < n.toNat - k; omega⟩
              · show List.map i64 (trn n k l) = List.map i64 (formK n l (k + 1))
                rw [hst, less2_yes ht, less2_no hw]
          · by_cases hw : cmpL (trn n k (mir n l)) l < 0
            · refine Z ?_
              refine tY oky ?_; refine callW.mk [] 6 _ _ _ (l10Turned_c _ _ _ oka oka) rfl rfl trivial nofun ?_; iterate 7 refine Z ?_
              refine callW.mk [] 8 _ _ _ (l10Less_c _ _ oka oka) rfl rfl trivial nofun ?_; refine tN okn ?_; refine callW.mk [] 8 _ _ _ (l10Turned_c _ _ _ oka oka) rfl rfl trivial nofun ?_; iterate 7 refine Z ?_
              refine callW.mk [] 10 _ _ _ (l10Less_c _ _ oka oka) rfl rfl trivial nofun ?_; refine tY oky ?_; iterate 4 refine Z ?_
              refine nw (by omega) (by omega) ?_; rotate_left; refine hR ((k + 1, false)) _ _ ?_ ?_; rotate_left; refine weak.mk [] [0, 1, 2, 3, 4, 8] rfl rfl ?_ ?_
              repeat' first | exact trivial | exact rfl | exact Iff.rfl | assumption | exact pureI | exact (show _ = _ by omega) | exact (show _ ≤ _ by omega) | exact (show _ < _ by omega) | exact (show ¬ _ by omega) | refine And.intro ?_ ?_
              rotate_right
              · exact ⟨⟨by omega, nofun⟩, by show n.toNat - (k + 1) < n.toNat - k; omega⟩
              · show List.map i64 (trn n k (mir n l)) = List.map i64 (formK n l (k + 1))
                rw [hst, less2_no ht, less2_yes hw]
            · refine Z ?_
              refine tY oky ?_; refine callW.mk [] 6 _ _ _ (l10Turned_c _ _ _ oka oka) rfl rfl trivial nofun ?_; iterate 7 refine Z ?_
              refine callW.mk [] 8 _ _ _ (l10Less_c _ _ oka oka) rfl rfl trivial nofun ?_; refine tN okn ?_; refine callW.mk [] 8 _ _ _ (l10Turned_c _ _ _ oka oka) rfl rfl trivial nofun ?_; iterate 7 refine Z ?_
              refine callW.mk [] 10 _ _ _ (l10Less_c _ _ oka oka) rfl rfl trivial nofun ?_; refine tN okn ?_; refine nw (by omega) (by omega) ?_; rotate_left; refine hR ((k + 1, true)) _ _ ?_ (weak.mk [] [0, 1, 2, 3, 4, 5] rfl rfl ?_ ?_)
              repeat' first | exact trivial | exact rfl | exact Iff.rfl | assumption | refine And.intro ?_ ?_
              · exact ⟨⟨by omega, fun _ => by rw [hst, less2_no ht, less2_no hw]⟩, by show n.toNat - (k + 1) < n.toNat - k; omega⟩
      · have e : k = n.toNat := by omega
        cases f
        · refine Z ?_
          refine tN okn ?_; refine drawP.mkS (Z (Z ?_)); refine Z ?_
          apply exP.mk
          refine Z ?_
          exact rfl
          apply exP.mk
          exact rfl
          apply exP.mk
          refine Z ?_
          exact rfl
          apply exP.mk
          exact rfl
          refine callW.mk [] 6 _ _ _ (l1Own_c _ oka) rfl rfl trivial nofun ?_; refine Z ?_; refine And.intro ?_ ?_; refine Z ?_
          exact rfl
          refine Z ?_
          apply exP.mk
          iterate 7 refine Z ?_
          exact rfl
          iterate 5 refine Z ?_
          rotate_left; refine doneV.mk [] [6] rfl rfl ?_ ?_ ?_
          repeat' first | exact trivial | exact rfl | exact Iff.rfl | assumption | exact pureI | exact (show _ = _ by omega) | exact (show _ ≤ _ by omega) | exact (show _ < _ by omega) | exact (show ¬ _ by omega) | refine And.intro ?_ ?_
          exact map_congr (show formK n l k = formR n l from by unfold formR; rw [← e])
        · have hfl := hf rfl
          refine Z ?_; refine tN okn ?_; refine drawP.mkS (Z (Z ?_)); refine Z ?_
          apply exP.mk
          refine Z ?_
          exact rfl
          apply exP.mk
          exact rfl
          apply exP.mk
          refine Z ?_
          exact rfl
          apply exP.mk
          exact rfl
          refine callW.mk [] 6 _ _ _ (l1Own_c _ oka) rfl rfl trivial nofun ?_; refine Z ?_; refine And.intro ?_ ?_; refine Z ?_
          exact rfl
          refine Z ?_
          apply exP.mk
          iterate 7 refine Z ?_
          exact rfl
          iterate 5 refine Z ?_
          rotate_left; refine doneV.mk [] [6] rfl rfl ?_ ?_ ?_
          repeat' first | exact trivial | exact rfl | exact Iff.rfl | assumption | exact pureI | exact (show _ = _ by omega) | exact (show _ ≤ _ by omega) | exact (show _ < _ by omega) | exact (show ¬ _ by omega) | refine And.intro ?_ ?_
          exact map_congr (show l = formR n l from by unfold formR; rw [← e]; exact hfl.symm)
  · refine loop_up (β := Nat × Bool) (fun (k, f) => [(5, i64 k)]) (fun (k, f) => [(3, .row .var 2 [.agg [i64 n, cond f (ints l) (.loc 5)]]), (5, row (cond f [] (formK n l k)))]) [1] (fun (k, f) => k ≤ n.toNat ∧ (f = true → formK n l k = l)) (fun (k, f) => n.toNat - k) ((0, true)) ?_ ?_ ?_
    · exact ⟨Nat.zero_le _, fun _ => rfl⟩
    · refine weak.mk [1] [0, 1, 2, 3, 4, 5] rfl rfl ?_ ?_
      repeat' first | exact trivial | exact rfl | exact Iff.rfl | assumption | refine And.intro ?_ ?_
    · rintro ⟨k, f⟩ ⟨hk, hf⟩ R hR
      obtain ⟨f1, f2⟩ := formK_crowd hc k
      obtain ⟨t1, t2⟩ := trn_crowd (s := (k : Int)) hc
      obtain ⟨w1, w2⟩ := trn_crowd (s := (k : Int)) m1
      have hst : formK n l (k + 1) = less2 (trn n k (mir n l)) (less2 (trn n k l) (formK n l k)) := rfl
      by_cases hkn : k < n.toNat
      · cases f
        · by_cases ht : cmpL (trn n k l) (formK n l k) < 0
          · by_cases hw : cmpL (trn n k (mir n l)) (trn n k l) < 0
            · refine Z ?_
              refine tY oky ?_; refine callW.mk [] 6 _ _ _ (l10Turned_c _ _ _ oka oka) rfl rfl trivial nofun ?_; iterate 7 refine Z ?_
              refine callW.mk [] 8 _ _ _ (l10Less_c _ _ oka oka) rfl rfl trivial nofun ?_; refine tY oky ?_; iterate 4 refine Z ?_
              refine callW.mk [] 8 _ _ _ (l10Turned_c _ _ _ oka oka) rfl rfl trivial nofun ?_; iterate 7 refine Z ?_
              refine callW.mk [] 10 _ _ _ (l10Less_c _ _ oka oka) rfl rfl trivial nofun ?_; refine tY oky ?_; iterate 4 refine Z ?_
              refine nw (by omega) (by omega) ?_; rotate_left; refine hR ((k + 1, false)) _ _ ?_ ?_; rotate_left; refine weak.mk [] [0, 1, 2, 3, 4, 8] rfl rfl ?_ ?_
              repeat' first | exact trivial | exact rfl | exact Iff.rfl | assumption | exact pureI | exact (show _ = _ by omega) | exact (show _ ≤ _ by omega) | exact (show _ < _ by omega) | exact (show ¬ _ by omega) | refine And.intro ?_ ?_
              rotate_right
              · exact ⟨⟨by omega, nofun⟩, by show n.toNat - (k + 1) < n.toNat - k; omega⟩
              · show List.map i64 (trn n k (mir n l)) = List.map i64 (formK n l (k + 1))
                rw [hst, less2_yes ht, less2_yes hw]
            · refine Z ?_
              refine tY oky ?_; refine callW.mk [] 6 _ _ _ (l10Turned_c _ _ _ oka oka) rfl rfl trivial nofun ?_; iterate 7 refine Z ?_
              refine callW.mk [] 8 _ _ _ (l10Less_c _ _ oka oka) rfl rfl trivial nofun ?_; refine tY oky ?_; iterate 4 refine Z ?_
              refine callW.mk [] 8 _ _ _ (l10Turned_c _ _ _ oka oka) rfl rfl trivial nofun ?_; iterate 7 refine Z ?_
              refine callW.mk [] 10 _ _ _ (l10Less_c _ _ oka oka) rfl rfl trivial nofun ?_; refine tN okn ?_; refine nw (by omega) (by omega) ?_; rotate_left; refine hR ((k + 1, false)) _ _ ?_ ?_; rotate_left; refine weak.mk [] [0, 1, 2, 3, 4, 6] rfl rfl ?_ ?_
              repeat' first | exact trivial | exact rfl | exact Iff.rfl | assumption | exact pureI | exact (show _ = _ by omega) | exact (show _ ≤ _ by omega) | exact (show _ < _ by omega) | exact (show ¬ _ by omega) | refine And.intro ?_ ?_
              rotate_right
              · exact ⟨⟨by omega, nofun⟩, by show n.toNat - (k + 1) < n.toNat - k; omega⟩
              · show List.map i64 (trn n k l) = List.map i64 (formK n l (k + 1))
                rw [hst, less2_yes ht, less2_no hw]
          · by_cases hw : cmpL (trn n k (mir n l)) (formK n l k) < 0
            · refine Z ?_
              refine tY oky ?_; refine callW.mk [] 6 _ _ _ (l10Turned_c _ _ _ oka oka) rfl rfl trivial nofun ?_; iterate 7 refine Z ?_
              refine callW.mk [] 8 _ _ _ (l10Less_c _ _ oka oka) rfl rfl trivial nofun ?_; refine tN okn ?_; refine callW.mk [] 8 _ _ _ (l10Turned_c _ _ _ oka oka) rfl rfl trivial nofun ?_; iterate 7 refine Z ?_
              refine callW.mk [] 10 _ _ _ (l10Less_c _ _ oka oka) rfl rfl trivial nofun ?_; refine tY oky ?_; iterate 4 refine Z ?_
              refine nw (by omega) (by omega) ?_; rotate_left; refine hR ((k + 1, false)) _ _ ?_ ?_; rotate_left; refine weak.mk [] [0, 1, 2, 3, 4, 8] rfl rfl ?_ ?_
              repeat' first | exact trivial | exact rfl | exact Iff.rfl | assumption | exact pureI | exact (show _ = _ by omega) | exact (show _ ≤ _ by omega) | exact (show _ < _ by omega) | exact (show ¬ _ by omega) | refine And.intro ?_ ?_
              rotate_right
              · exact ⟨⟨by omega, nofun⟩, by show n.toNat - (k + 1) < n.toNat - k; omega⟩
              · show List.map i64 (trn n k (mir n l)) = List.map i64 (formK n l (k + 1))
                rw [hst, less2_no ht, less2_yes hw]
            · refine Z ?_
              refine tY oky ?_; refine callW.mk [] 6 _ _ _ (l10Turned_c _ _ _ oka oka) rfl rfl trivial nofun ?_; iterate 7 refine Z ?_
              refine callW.mk [] 8 _ _ _ (l10Less_c _ _ oka oka) rfl rfl trivial nofun ?_; refine tN okn ?_; refine callW.mk [] 8 _ _ _ (l10Turned_c _ _ _ oka oka) rfl rfl trivial nofun ?_; iterate 7 refine Z ?_
              refine callW.mk [] 10 _ _ _ (l10Less_c _ _ oka oka) rfl rfl trivial nofun ?_; refine tN okn ?_; refine nw (by omega) (by omega) ?_; rotate_left; refine hR ((k + 1, false)) _ _ ?_ (weak.mk [] [0, 1, 2, 3, 4, 5] rfl rfl ?_ ?_)
              repeat' first | exact trivial | exact rfl | exact Iff.rfl | assumption | refine And.intro ?_ ?_
              · exact ⟨⟨by omega, nofun⟩, by show n.toNat - (k + 1) < n.toNat - k; omega⟩
              · show List.map i64 (formK n l k) = List.map i64 (formK n l (k + 1))
                rw [hst, less2_no ht, less2_no hw]
        · have hfl := hf rfl
          rw [hfl] at hst
          by_cases ht : cmpL (trn n k l) l < 0
          · by_cases hw : cmpL (trn n k (mir n l)) (trn n k l) < 0
            · refine Z ?_
              refine tY oky ?_; refine callW.mk [] 6 _ _ _ (l10Turned_c _ _ _ oka oka) rfl rfl trivial nofun ?_; iterate 7 refine Z ?_
              refine callW.mk [] 8 _ _ _ (l10Less_c _ _ oka oka) rfl rfl trivial nofun ?_; refine tY oky ?_; iterate 4 refine Z ?_
              refine callW.mk [] 8 _ _ _ (l10Turned_c _ _ _ oka oka) rfl rfl trivial nofun ?_; iterate 7 refine Z ?_
              refine callW.mk [] 10 _ _ _ (l10Less_c _ _ oka oka) rfl rfl trivial nofun ?_; refine tY oky ?_; iterate 4 refine Z ?_
              refine nw (by omega) (by omega) ?_; rotate_left; refine hR ((k + 1, false)) _ _ ?_ ?_; rotate_left; refine weak.mk [] [0, 1, 2, 3, 4, 8] rfl rfl ?_ ?_
              repeat' first | exact trivial | exact rfl | exact Iff.rfl | assumption | exact pureI | exact (show _ = _ by omega) | exact (show _ ≤ _ by omega) | exact (show _ < _ by omega) | exact (show ¬ _ by omega) | refine And.intro ?_ ?_
              rotate_right
              · exact ⟨⟨by omega, nofun⟩, by show n.toNat - (k + 1) < n.toNat - k; omega⟩
              · show List.map i64 (trn n k (mir n l)) = List.map i64 (formK n l (k + 1))
                rw [hst, less2_yes ht, less2_yes hw]
            · refine Z ?_
              refine tY oky ?_; refine callW.mk [] 6 _ _ _ (l10Turned_c _ _ _ oka oka) rfl rfl trivial nofun ?_; iterate 7 refine Z ?_
              refine callW.mk [] 8 _ _ _ (l10Less_c _ _ oka oka) rfl rfl trivial nofun ?_; refine tY oky ?_; iterate 4 refine Z ?_
              refine callW.mk [] 8 _ _ _ (l10Turned_c _ _ _ oka oka) rfl rfl trivial nofun ?_; iterate 7 refine Z ?_
              refine callW.mk [] 10 _ _ _ (l10Less_c _ _ oka oka) rfl rfl trivial nofun ?_; refine tN okn ?_; refine nw (by omega) (by omega) ?_; rotate_left; refine hR ((k + 1, false)) _ _ ?_ ?_; rotate_left; refine weak.mk [] [0, 1, 2, 3, 4, 6] rfl rfl ?_ ?_
              repeat' first | exact trivial | exact rfl | exact Iff.rfl | assumption | exact pureI | exact (show _ = _ by omega) | exact (show _ ≤ _ by omega) | exact (show _ < _ by omega) | exact (show ¬ _ by omega) | refine And.intro ?_ ?_
              rotate_right
              · exact ⟨⟨by omega, nofun⟩, by show n.toNat - (k + 1) < n.toNat - k; omega⟩
              · show List.map i64 (trn n k l) = List.map i64 (formK n l (k + 1))
                rw [hst, less2_yes ht, less2_no hw]
          · by_cases hw : cmpL (trn n k (mir n l)) l < 0
            · refine Z ?_
              refine tY oky ?_; refine callW.mk [] 6 _ _ _ (l10Turned_c _ _ _ oka oka) rfl rfl trivial nofun ?_; iterate 7 refine Z ?_
              refine callW.mk [] 8 _ _ _ (l10Less_c _ _ oka oka) rfl rfl trivial nofun ?_; refine tN okn ?_; refine callW.mk [] 8 _ _ _ (l10Turned_c _ _ _ oka oka) rfl rfl trivial nofun ?_; iterate 7 refine Z ?_
              refine callW.mk [] 10 _ _ _ (l10Less_c _ _ oka oka) rfl rfl trivial nofun ?_; refine tY oky ?_; iterate 4 refine Z ?_
              refine nw (by omega) (by omega) ?_; rotate_left; refine hR ((k + 1, false)) _ _ ?_ ?_; rotate_left; refine weak.mk [] [0, 1, 2, 3, 4, 8] rfl rfl ?_ ?_
              repeat' first | exact trivial | exact rfl | exact Iff.rfl | assumption | exact pureI | exact (show _ = _ by omega) | exact (show _ ≤ _ by omega) | exact (show _ < _ by omega) | exact (show ¬ _ by omega) | refine And.intro ?_ ?_
              rotate_right
              · exact ⟨⟨by omega, nofun⟩, by show n.toNat - (k + 1) < n.toNat - k; omega⟩
              · show List.map i64 (trn n k (mir n l)) = List.map i64 (formK n l (k + 1))
                rw [hst, less2_no ht, less2_yes hw]
            · refine Z ?_
              refine tY oky ?_; refine callW.mk [] 6 _ _ _ (l10Turned_c _ _ _ oka oka) rfl rfl trivial nofun ?_; iterate 7 refine Z ?_
              refine callW.mk [] 8 _ _ _ (l10Less_c _ _ oka oka) rfl rfl trivial nofun ?_; refine tN okn ?_; refine callW.mk [] 8 _ _ _ (l10Turned_c _ _ _ oka oka) rfl rfl trivial nofun ?_; iterate 7 refine Z ?_
              refine callW.mk [] 10 _ _ _ (l10Less_c _ _ oka oka) rfl rfl trivial nofun ?_; refine tN okn ?_; refine nw (by omega) (by omega) ?_; rotate_left; refine hR ((k + 1, true)) _ _ ?_ (weak.mk [] [0, 1, 2, 3, 4, 5] rfl rfl ?_ ?_)
              repeat' first | exact trivial | exact rfl | exact Iff.rfl | assumption | refine And.intro ?_ ?_
              · exact ⟨⟨by omega, fun _ => by rw [hst, less2_no ht, less2_no hw]⟩, by show n.toNat - (k + 1) < n.toNat - k; omega⟩
      · have e : k = n.toNat := by omega
        cases f
        · refine Z ?_
          refine tN okn ?_; refine drawP.mkS (Z (Z ?_)); refine Z ?_
          apply exP.mk
          refine Z ?_
          exact rfl
          apply exP.mk
          exact rfl
          apply exP.mk
          refine Z ?_
          exact rfl
          apply exP.mk
          exact rfl
          refine callW.mk [] 6 _ _ _ (l1Own_c _ oka) rfl rfl trivial nofun ?_; refine Z ?_; refine And.intro ?_ ?_; refine Z ?_
          exact rfl
          refine Z ?_
          apply exP.mk
          iterate 7 refine Z ?_
          exact rfl
          iterate 5 refine Z ?_
          rotate_left; refine doneV.mk [] [6] rfl rfl ?_ ?_ ?_
          repeat' first | exact trivial | exact rfl | exact Iff.rfl | assumption | exact pureI | exact (show _ = _ by omega) | exact (show _ ≤ _ by omega) | exact (show _ < _ by omega) | exact (show ¬ _ by omega) | refine And.intro ?_ ?_
          exact map_congr (show formK n l k = formR n l from by unfold formR; rw [← e])
        · have hfl := hf rfl
          refine Z ?_; refine tN okn ?_; refine drawP.mkS (Z (Z ?_)); refine Z ?_
          apply exP.mk
          refine Z ?_
          exact rfl
          apply exP.mk
          exact rfl
          apply exP.mk
          refine Z ?_
          exact rfl
          apply exP.mk
          exact rfl
          refine callW.mk [] 6 _ _ _ (l1Own_c _ oka) rfl rfl trivial nofun ?_; refine Z ?_; refine And.intro ?_ ?_; refine Z ?_
          exact rfl
          refine Z ?_
          apply exP.mk
          iterate 7 refine Z ?_
          exact rfl
          iterate 5 refine Z ?_
          rotate_left; refine doneV.mk [] [6] rfl rfl ?_ ?_ ?_
          repeat' first | exact trivial | exact rfl | exact Iff.rfl | assumption | exact pureI | exact (show _ = _ by omega) | exact (show _ ≤ _ by omega) | exact (show _ < _ by omega) | exact (show ¬ _ by omega) | refine And.intro ?_ ?_
          exact map_congr (show l = formR n l from by unfold formR; rw [← e]; exact hfl.symm)
end Sx
