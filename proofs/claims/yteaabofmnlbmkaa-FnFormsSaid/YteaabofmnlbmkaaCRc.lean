/- Contracts: the first crowd of a form. -/
import Derived.Test.YteaabofmnlbmkaaSyC
import Derived.Test.YteaabofmnlbmkaaCRb
set_option linter.all false
namespace Sx
open Go Go.Proofs
set_option maxRecDepth 100000
set_option maxHeartbeats 8000000
set_option linter.unusedSimpArgs false
set_option linter.unusedSectionVars false
variable [Glb]
theorem form_c (n : Int) (l : List Int) (hc : crowd n l) : C 54 [.agg [i64 n, ints l]] [] (.agg [i64 n, .loc 0]) [row (formR n l)] false := by
  have hn := hc.1.1
  have hl := hc.1.2
  refine mkC false false Try.func54 rfl ?_; refine And.intro nofun ?_; iterate 2 refine Z ?_
  refine callW.mk [] 2 _ _ _ (turned_c _ _ _ oka oka) rfl rfl trivial nofun ?_; iterate 6 refine Z ?_
  rotate_left
  rw [trn_0 hc]
  refine loop_up (β := Nat) (fun k => [(8, .unk), (11, i64 k)]) (fun k => [(2, row (formK n l k)), (3, .row .var 2 [.agg [i64 n, .loc 2]])]) [] (fun k => k ≤ n.toNat) (fun k => n.toNat - k) (0) ?_ ?_ ?_
  · exact Nat.zero_le _
  · refine weak.mk [] [0, 1, 2, 3] rfl rfl ?_ ?_
    repeat' first | exact trivial | exact rfl | exact Iff.rfl | assumption | exact pureI | exact (show _ = _ by omega) | exact (show _ ≤ _ by omega) | exact (show _ < _ by omega) | exact (show ¬ _ by omega) | refine And.intro ?_ ?_
  · rintro k hk R hR
    obtain ⟨f1, f2⟩ := formK_crowd hc k
    obtain ⟨t1, t2⟩ := trn_crowd (s := (k : Int)) hc
    obtain ⟨m1, m2⟩ := mir_crowd hc
    obtain ⟨w1, w2⟩ := trn_crowd (s := (k : Int)) m1
    have hst : formK n l (k + 1) = less2 (trn n k (mir n l)) (less2 (trn n k l) (formK n l k)) := rfl
    by_cases hkn : k < n.toNat
    · refine tY oky ?_
      refine drawP.mkS (Z (Z ?_)); refine Z ?_
      apply exP.mk
      exact rfl
      apply exP.mk
      exact rfl
      apply exP.mk
      exact rfl
      apply exP.mk
      exact rfl
      apply exP.mk
      exact rfl
      refine callW.mk [] 4 _ _ _ (turned_c _ _ _ oka oka) rfl rfl trivial nofun ?_; iterate 4 refine Z ?_
      refine callW.mk [] 5 _ _ _ (mirrored_c _ _ oka) rfl rfl trivial nofun ?_; iterate 3 refine Z ?_
      refine callW.mk [] 6 _ _ _ (turned_c _ _ _ oka oka) rfl rfl trivial nofun ?_; iterate 11 refine Z ?_
      apply exP.mk
      refine lenP.mk _ rfl ?_
      exact rfl
      refine Z ?_; rotate_left; refine loop_up (β := Nat × Nat) (fun (j, c) => [(22, i64 2), (23, i64 j)]) (fun (j, c) => [(3, .row .var 2 [.agg [i64 n, .loc c]])]) [] (fun (j, c) => (j = 0 ∧ c = 2) ∨ (j = 1 ∧ ((c = 2 ∧ ¬ cmpL (trn n k l) (formK n l k) < 0) ∨ (c = 4 ∧ cmpL (trn n k l) (formK n l k) < 0))) ∨ (j = 2 ∧ ((c = 2 ∧ less2 (trn n k (mir n l)) (less2 (trn n k l) (formK n l k)) = (formK n l k)) ∨ (c = 4 ∧ less2 (trn n k (mir n l)) (less2 (trn n k l) (formK n l k)) = (trn n k l)) ∨ (c = 6 ∧ less2 (trn n k (mir n l)) (less2 (trn n k l) (formK n l k)) = (trn n k (mir n l)))))) (fun (j, c) => 2 - j) ((0, 2)) ?_ ?_ ?_
      · exact .inl ⟨rfl, rfl⟩
      · refine weak.mk [] [0, 1, 2, 3, 4, 5, 6, 7] rfl rfl ?_ ?_
        repeat' first | exact trivial | exact rfl | exact Iff.rfl | assumption | exact pureI | exact (show _ = _ by omega) | exact (show _ ≤ _ by omega) | exact (show _ < _ by omega) | exact (show ¬ _ by omega) | refine And.intro ?_ ?_
      · rintro ⟨j, c⟩ hj R2 hR2
        rcases hj with ⟨rfl, rfl⟩ | ⟨rfl, (⟨rfl, h⟩ | ⟨rfl, h⟩)⟩ | ⟨rfl, (⟨rfl, h⟩ | ⟨rfl, h⟩ | ⟨rfl, h⟩)⟩
        · by_cases ht : cmpL (trn n k l) (formK n l k) < 0
          · refine tY oky ?_
            iterate 2 refine Z ?_
            rotate_left; refine idxN.mk 0 (by exact (by decide : (0 : Int) ≤ 0)) (by exact (by decide : (0 : Int) < 2)) rfl ?_
            iterate 7 refine Z ?_
            refine callW.mk [] 9 _ _ _ (Compare_c _ _ oka oka) rfl rfl trivial nofun ?_; refine tY oky ?_; iterate 4 refine Z ?_
            refine nw (by omega) (by omega) ?_; rotate_left; refine hR2 ((1, 4)) _ _ ?_ (weak.mk [] [0, 1, 2, 3, 4, 5, 6, 7] rfl rfl ?_ ?_)
            repeat' first | exact trivial | exact rfl | exact Iff.rfl | assumption | refine And.intro ?_ ?_
            exact ⟨.inr (.inl ⟨rfl, .inr ⟨rfl, ht⟩⟩), by decide⟩
          · refine tY oky ?_
            iterate 2 refine Z ?_
            rotate_left; refine idxN.mk 0 (by exact (by decide : (0 : Int) ≤ 0)) (by exact (by decide : (0 : Int) < 2)) rfl ?_
            iterate 7 refine Z ?_
            refine callW.mk [] 9 _ _ _ (Compare_c _ _ oka oka) rfl rfl trivial nofun ?_; refine tN okn ?_; refine nw (by omega) (by omega) ?_; rotate_left; refine hR2 ((1, 2)) _ _ ?_ (weak.mk [] [0, 1, 2, 3, 4, 5, 6, 7] rfl rfl ?_ ?_)
            repeat' first | exact trivial | exact rfl | exact Iff.rfl | assumption | refine And.intro ?_ ?_
            exact ⟨.inr (.inl ⟨rfl, .inl ⟨rfl, ht⟩⟩), by decide⟩
        · by_cases hw : cmpL (trn n k (mir n l)) (formK n l k) < 0
          · refine tY oky ?_
            iterate 2 refine Z ?_
            rotate_left; refine idxN.mk 1 (by exact (by decide : (0 : Int) ≤ 1)) (by exact (by decide : (1 : Int) < 2)) rfl ?_
            iterate 7 refine Z ?_
            refine callW.mk [] 9 _ _ _ (Compare_c _ _ oka oka) rfl rfl trivial nofun ?_; refine tY oky ?_; iterate 4 refine Z ?_
            refine nw (by omega) (by omega) ?_; rotate_left; refine hR2 ((2, 6)) _ _ ?_ (weak.mk [] [0, 1, 2, 3, 4, 5, 6, 7] rfl rfl ?_ ?_)
            repeat' first | exact trivial | exact rfl | exact Iff.rfl | assumption | refine And.intro ?_ ?_
            exact ⟨.inr (.inr ⟨rfl, .inr (.inr ⟨rfl, by rw [less2_no h, less2_yes hw]⟩)⟩), by decide⟩
          · refine tY oky ?_
            iterate 2 refine Z ?_
            rotate_left; refine idxN.mk 1 (by exact (by decide : (0 : Int) ≤ 1)) (by exact (by decide : (1 : Int) < 2)) rfl ?_
            iterate 7 refine Z ?_
            refine callW.mk [] 9 _ _ _ (Compare_c _ _ oka oka) rfl rfl trivial nofun ?_; refine tN okn ?_; refine nw (by omega) (by omega) ?_; rotate_left; refine hR2 ((2, 2)) _ _ ?_ (weak.mk [] [0, 1, 2, 3, 4, 5, 6, 7] rfl rfl ?_ ?_)
            repeat' first | exact trivial | exact rfl | exact Iff.rfl | assumption | refine And.intro ?_ ?_
            exact ⟨.inr (.inr ⟨rfl, .inl ⟨rfl, by rw [less2_no h, less2_no hw]⟩⟩), by decide⟩
        · by_cases hw : cmpL (trn n k (mir n l)) (trn n k l) < 0
          · refine tY oky ?_
            iterate 2 refine Z ?_
            rotate_left; refine idxN.mk 1 (by exact (by decide : (0 : Int) ≤ 1)) (by exact (by decide : (1 : Int) < 2)) rfl ?_
            iterate 7 refine Z ?_
            refine callW.mk [] 9 _ _ _ (Compare_c _ _ oka oka) rfl rfl trivial nofun ?_; refine tY oky ?_; iterate 4 refine Z ?_
            refine nw (by omega) (by omega) ?_; rotate_left; refine hR2 ((2, 6)) _ _ ?_ (weak.mk [] [0, 1, 2, 3, 4, 5, 6, 7] rfl rfl ?_ ?_)
            repeat' first | exact trivial | exact rfl | exact Iff.rfl | assumption | refine And.intro ?_ ?_
            exact ⟨.inr (.inr ⟨rfl, .inr (.inr ⟨rfl, by rw [less2_yes h, less2_yes hw]⟩)⟩), by decide⟩
          · refine tY oky ?_
            iterate 2 refine Z ?_
            rotate_left; refine idxN.mk 1 (by exact (by decide : (0 : Int) ≤ 1)) (by exact (by decide : (1 : Int) < 2)) rfl ?_
            iterate 7 refine Z ?_
            refine callW.mk [] 9 _ _ _ (Compare_c _ _ oka oka) rfl rfl trivial nofun ?_; refine tN okn ?_; refine nw (by omega) (by omega) ?_; rotate_left; refine hR2 ((2, 4)) _ _ ?_ (weak.mk [] [0, 1, 2, 3, 4, 5, 6, 7] rfl rfl ?_ ?_)
            repeat' first | exact trivial | exact rfl | exact Iff.rfl | assumption | refine And.intro ?_ ?_
            exact ⟨.inr (.inr ⟨rfl, .inr (.inl ⟨rfl, by rw [less2_yes h, less2_no hw]⟩)⟩), by decide⟩
        · refine tN okn ?_
          refine nw (by omega) (by omega) ?_; rotate_left; refine hR (k + 1) _ _ ?_ ?_; rotate_left; refine weak.mk [] [0, 1, 2, 3] rfl rfl ?_ ?_
          repeat' first | exact trivial | exact rfl | exact Iff.rfl | assumption | exact pureI | exact (show _ = _ by omega) | exact (show _ ≤ _ by omega) | exact (show _ < _ by omega) | exact (show ¬ _ by omega) | refine And.intro ?_ ?_
          rotate_right
          · exact ⟨by omega, by omega⟩
          · show List.map i64 (formK n l k) = List.map i64 (formK n l (k + 1))
            rw [hst, h]
        · refine tN okn ?_
          refine nw (by omega) (by omega) ?_; rotate_left; refine hR (k + 1) _ _ ?_ ?_; rotate_left; refine weak.mk [] [0, 1, 4, 3] rfl rfl ?_ ?_
          repeat' first | exact trivial | exact rfl | exact Iff.rfl | assumption | exact pureI | exact (show _ = _ by omega) | exact (show _ ≤ _ by omega) | exact (show _ < _ by omega) | exact (show ¬ _ by omega) | refine And.intro ?_ ?_
          rotate_right
          · exact ⟨by omega, by omega⟩
          · show List.map i64 (trn n k l) = List.map i64 (formK n l (k + 1))
            rw [hst, h]
        · refine tN okn ?_
          refine nw (by omega) (by omega) ?_; rotate_left; refine hR (k + 1) _ _ ?_ ?_; rotate_left; refine weak.mk [] [0, 1, 6, 3] rfl rfl ?_ ?_
          repeat' first | exact trivial | exact rfl | exact Iff.rfl | assumption | exact pureI | exact (show _ = _ by omega) | exact (show _ ≤ _ by omega) | exact (show _ < _ by omega) | exact (show ¬ _ by omega) | refine And.intro ?_ ?_
          rotate_right
          · exact ⟨by omega, by omega⟩
          · show List.map i64 (trn n k (mir n l)) = List.map i64 (formK n l (k + 1))
            rw [hst, h]
    · have e : k = n.toNat := by omega
      refine tN okn ?_; iterate 4 refine Z ?_
      rotate_left; refine doneV.mk [] [2] rfl rfl ?_ ?_ ?_
      repeat' first | exact trivial | exact rfl | exact Iff.rfl | assumption | exact pureI | exact (show _ = _ by omega) | exact (show _ ≤ _ by omega) | exact (show _ < _ by omega) | exact (show ¬ _ by omega) | refine And.intro ?_ ?_
      rw [e]; rfl
end Sx
