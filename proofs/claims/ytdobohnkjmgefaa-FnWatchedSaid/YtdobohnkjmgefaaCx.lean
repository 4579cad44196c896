/- Contracts: a job done. -/
import Derived.Test.YtdobohnkjmgefaaCt
import Derived.Test.YtdobohnkjmgefaaCq
set_option linter.all false
namespace Sx
open Go Go.Proofs
set_option maxRecDepth 100000
set_option maxHeartbeats 4000000
set_option linter.unusedSimpArgs false
set_option linter.unusedSectionVars false
variable [Glb]
theorem WorkYard_k1 (y : Yd) (hg : good y) (hy : fitY 1099511627776 y) (k a b c : Int) (hk : k = 1) : C 36 [yv y, .agg [i64 k, i64 a, i64 b, i64 c]] [] (.tuple [.agg [i64 (wkR y ⟨k, a, b, c⟩).n, bv (wkR y ⟨k, a, b, c⟩).b, .loc 0, .loc 1, .loc 2, i64 (wkR y ⟨k, a, b, c⟩).c], pr (wkOk y ⟨k, a, b, c⟩)]) [row (wkR y ⟨k, a, b, c⟩).w, rowS (wkR y ⟨k, a, b, c⟩).S, rowK (wkR y ⟨k, a, b, c⟩).K] false := by
  have hc := hg.2.2.2.2
  have hf := nxt_fit ⟨k, a, b, c⟩ hg
  have ew : (made y ⟨k, a, b, c⟩).w = (made y ⟨k, a, b, c⟩).w := by first | rfl | simp [made, hk]
  have eS : (made y ⟨k, a, b, c⟩).S = y.S := by first | rfl | simp [made, hk]
  have eK : (made y ⟨k, a, b, c⟩).K = y.K := by first | rfl | simp [made, hk]
  have hI : C 57 [.agg [i64 y.n, bv y.b, ints (made y ⟨k, a, b, c⟩).w, sens y.S, cars y.K, i64 (y.c + 1)]] [] (pr (good (nxt y ⟨k, a, b, c⟩))) [] false := by
    have h := IsYard_c (nxt y ⟨k, a, b, c⟩) hf
    rw [nxt_yv] at h
    first | rwa [ew, eS, eK] at h | rwa [ew, eS] at h | rwa [eS, eK] at h | rwa [ew, eK] at h
  have h1 : (nxt y ⟨k, a, b, c⟩).w = (made y ⟨k, a, b, c⟩).w := ew
  have h2 : (nxt y ⟨k, a, b, c⟩).S = y.S := eS
  have h3 : (nxt y ⟨k, a, b, c⟩).K = y.K := eK
  refine mkC false false Try.func36 rfl ?_
  refine And.intro nofun ?_
  rw [wkR_do hg]
  by_cases hd : doOk y ⟨k, a, b, c⟩
  · rw [doR_yes hd, nxt_n, nxt_b, h1, h2, h3]
    have hm := hd.1
    have hn := hd.2
    iterate 3 refine Z ?_
    refine callW.mk [] 3 _ _ _ (IsYard_c _ (by first | omega | assumption | (simp; omega) | (simp; done))) rfl rfl trivial nofun ?_
    refine tN (by first | omega | assumption | exact fun h => h (by assumption) | exact fun h => h rfl | exact fun h => h Iff.rfl) ?_
    refine callW.mk [] 3 _ _ _ ((own_c y hy)) rfl rfl (by repeat' first | exact trivial | assumption | exact knownSS | exact knownApp knownSS knownNil | refine And.intro ?_ ?_) nofun ?_
    iterate 6 refine Z ?_
    refine nw (by omega) (by omega) ?_
    iterate 5 refine Z ?_
    refine callW.mk [6, 3, 4, 5] 7 _ _ _ ((work_c1 y hg k a b c (y.c + 1) hk)) rfl rfl (by repeat' first | exact trivial | assumption | exact knownSS | exact knownApp knownSS knownNil | refine And.intro ?_ ?_) nofun ?_
    refine tN (by first | omega | assumption | exact fun h => h (by assumption) | exact fun h => h rfl | exact fun h => h Iff.rfl) ?_
    refine callW.mk [] 8 _ _ _ (hI) rfl rfl (by repeat' first | exact trivial | assumption | exact knownSS | exact knownApp knownSS knownNil | refine And.intro ?_ ?_) nofun ?_
    refine tN (by first | omega | assumption | exact fun h => h (by assumption) | exact fun h => h rfl | exact fun h => h Iff.rfl) ?_
    iterate 4 refine Z ?_
    rotate_left
    refine doneV.mk [] [7, 4, 5] rfl rfl ?_ ?_ ?_
    repeat' first | exact trivial | exact rfl | exact Iff.rfl | assumption | exact pureI | exact (show _ = _ by omega) | exact (show _ ≤ _ by omega) | exact (show _ < _ by omega) | exact (show ¬ _ by omega) | refine And.intro ?_ ?_
    all_goals first | exact hd | exact ⟨hg, hd⟩ | exact pureSen | exact pureCar | exact pureI
  · rw [doR_no hd]
    have hd2 : ¬ wkOk y ⟨k, a, b, c⟩ := fun h => hd h.2
    by_cases hm : may y ⟨k, a, b, c⟩
    · have hn : ¬ good (nxt y ⟨k, a, b, c⟩) := fun h => hd ⟨hm, h⟩
      iterate 3 refine Z ?_
      refine callW.mk [] 3 _ _ _ (IsYard_c _ (by first | omega | assumption | (simp; omega) | (simp; done))) rfl rfl trivial nofun ?_
      refine tN (by first | omega | assumption | exact fun h => h (by assumption) | exact fun h => h rfl | exact fun h => h Iff.rfl) ?_
      refine callW.mk [] 3 _ _ _ ((own_c y hy)) rfl rfl (by repeat' first | exact trivial | assumption | exact knownSS | exact knownApp knownSS knownNil | refine And.intro ?_ ?_) nofun ?_
      iterate 6 refine Z ?_
      refine nw (by omega) (by omega) ?_
      iterate 5 refine Z ?_
      refine callW.mk [6, 3, 4, 5] 7 _ _ _ ((work_c1 y hg k a b c (y.c + 1) hk)) rfl rfl (by repeat' first | exact trivial | assumption | exact knownSS | exact knownApp knownSS knownNil | refine And.intro ?_ ?_) nofun ?_
      refine tN (by first | omega | assumption | exact fun h => h (by assumption) | exact fun h => h rfl | exact fun h => h Iff.rfl) ?_
      refine callW.mk [] 8 _ _ _ (hI) rfl rfl (by repeat' first | exact trivial | assumption | exact knownSS | exact knownApp knownSS knownNil | refine And.intro ?_ ?_) nofun ?_
      refine tY (by first | omega | assumption | exact rfl | exact Iff.rfl) ?_
      iterate 5 refine Z ?_
      rotate_left
      refine doneV.mk [1, 2, 3] [8, 9, 10] rfl rfl ?_ ?_ ?_
      repeat' first | exact trivial | exact rfl | exact Iff.rfl | assumption | exact pureI | exact (show _ = _ by omega) | exact (show _ ≤ _ by omega) | exact (show _ < _ by omega) | exact (show ¬ _ by omega) | refine And.intro ?_ ?_
      all_goals first | exact hd2 | exact Bool.false_ne_true | exact pureSen | exact pureCar | exact pureI
    · iterate 3 refine Z ?_
      refine callW.mk [] 3 _ _ _ (IsYard_c _ (by first | omega | assumption | (simp; omega) | (simp; done))) rfl rfl trivial nofun ?_
      refine tN (by first | omega | assumption | exact fun h => h (by assumption) | exact fun h => h rfl | exact fun h => h Iff.rfl) ?_
      refine callW.mk [] 3 _ _ _ ((own_c y hy)) rfl rfl (by repeat' first | exact trivial | assumption | exact knownSS | exact knownApp knownSS knownNil | refine And.intro ?_ ?_) nofun ?_
      iterate 6 refine Z ?_
      refine nw (by omega) (by omega) ?_
      iterate 5 refine Z ?_
      refine callW.mk [6, 3, 4, 5] 7 _ _ _ ((work_c1 y hg k a b c (y.c + 1) hk)) rfl rfl (by repeat' first | exact trivial | assumption | exact knownSS | exact knownApp knownSS knownNil | refine And.intro ?_ ?_) nofun ?_
      refine tY (by first | omega | assumption | exact rfl | exact Iff.rfl) ?_
      iterate 5 refine Z ?_
      rotate_left
      refine doneV.mk [1, 2, 3] [8, 9, 10] rfl rfl ?_ ?_ ?_
      repeat' first | exact trivial | exact rfl | exact Iff.rfl | assumption | exact pureI | exact (show _ = _ by omega) | exact (show _ ≤ _ by omega) | exact (show _ < _ by omega) | exact (show ¬ _ by omega) | refine And.intro ?_ ?_
      all_goals first | exact hd2 | exact Bool.false_ne_true | exact pureSen | exact pureCar | exact pureI
theorem WorkYard_k2 (y : Yd) (hg : good y) (hy : fitY 1099511627776 y) (k a b c : Int) (hk : k = 2) (hl : y.w.length ≠ 1) : C 36 [yv y, .agg [i64 k, i64 a, i64 b, i64 c]] [] (.tuple [.agg [i64 (wkR y ⟨k, a, b, c⟩).n, bv (wkR y ⟨k, a, b, c⟩).b, .loc 0, .loc 1, .loc 2, i64 (wkR y ⟨k, a, b, c⟩).c], pr (wkOk y ⟨k, a, b, c⟩)]) [row (wkR y ⟨k, a, b, c⟩).w, rowS (wkR y ⟨k, a, b, c⟩).S, rowK (wkR y ⟨k, a, b, c⟩).K] false := by
  have hc := hg.2.2.2.2
  have hf := nxt_fit ⟨k, a, b, c⟩ hg
  have ew : (made y ⟨k, a, b, c⟩).w = (made y ⟨k, a, b, c⟩).w := by first | rfl | simp [made, hk]
  have eS : (made y ⟨k, a, b, c⟩).S = y.S := by first | rfl | simp [made, hk]
  have eK : (made y ⟨k, a, b, c⟩).K = y.K := by first | rfl | simp [made, hk]
  have hI : C 57 [.agg [i64 y.n, bv y.b, ints (made y ⟨k, a, b, c⟩).w, sens y.S, cars y.K, i64 (y.c + 1)]] [] (pr (good (nxt y ⟨k, a, b, c⟩))) [] false := by
    have h := IsYard_c (nxt y ⟨k, a, b, c⟩) hf
    rw [nxt_yv] at h
    first | rwa [ew, eS, eK] at h | rwa [ew, eS] at h | rwa [eS, eK] at h | rwa [ew, eK] at h
  have h1 : (nxt y ⟨k, a, b, c⟩).w = (made y ⟨k, a, b, c⟩).w := ew
  have h2 : (nxt y ⟨k, a, b, c⟩).S = y.S := eS
  have h3 : (nxt y ⟨k, a, b, c⟩).K = y.K := eK
  refine mkC false false Try.func36 rfl ?_
  refine And.intro nofun ?_
  rw [wkR_do hg]
  by_cases hd : doOk y ⟨k, a, b, c⟩
  · rw [doR_yes hd, nxt_n, nxt_b, h1, h2, h3]
    have hm := hd.1
    have hn := hd.2
    iterate 3 refine Z ?_
    refine callW.mk [] 3 _ _ _ (IsYard_c _ (by first | omega | assumption | (simp; omega) | (simp; done))) rfl rfl trivial nofun ?_
    refine tN (by first | omega | assumption | exact fun h => h (by assumption) | exact fun h => h rfl | exact fun h => h Iff.rfl) ?_
    refine callW.mk [] 3 _ _ _ ((own_c y hy)) rfl rfl (by repeat' first | exact trivial | assumption | exact knownSS | exact knownApp knownSS knownNil | refine And.intro ?_ ?_) nofun ?_
    iterate 6 refine Z ?_
    refine nw (by omega) (by omega) ?_
    iterate 5 refine Z ?_
    refine callW.mk [6, 3, 4, 5] 7 _ _ _ ((work_c2 y hg k a b c (y.c + 1) hk hl)) rfl rfl (by repeat' first | exact trivial | assumption | exact knownSS | exact knownApp knownSS knownNil | refine And.intro ?_ ?_) nofun ?_
    refine tN (by first | omega | assumption | exact fun h => h (by assumption) | exact fun h => h rfl | exact fun h => h Iff.rfl) ?_
    refine callW.mk [] 8 _ _ _ (hI) rfl rfl (by repeat' first | exact trivial | assumption | exact knownSS | exact knownApp knownSS knownNil | refine And.intro ?_ ?_) nofun ?_
    refine tN (by first | omega | assumption | exact fun h => h (by assumption) | exact fun h => h rfl | exact fun h => h Iff.rfl) ?_
    iterate 4 refine Z ?_
    rotate_left
    refine doneV.mk [] [7, 4, 5] rfl rfl ?_ ?_ ?_
    repeat' first | exact trivial | exact rfl | exact Iff.rfl | assumption | exact pureI | exact (show _ = _ by omega) | exact (show _ ≤ _ by omega) | exact (show _ < _ by omega) | exact (show ¬ _ by omega) | refine And.intro ?_ ?_
    all_goals first | exact hd | exact ⟨hg, hd⟩ | exact pureSen | exact pureCar | exact pureI
  · rw [doR_no hd]
    have hd2 : ¬ wkOk y ⟨k, a, b, c⟩ := fun h => hd h.2
    by_cases hm : may y ⟨k, a, b, c⟩
    · have hn : ¬ good (nxt y ⟨k, a, b, c⟩) := fun h => hd ⟨hm, h⟩
      iterate 3 refine Z ?_
      refine callW.mk [] 3 _ _ _ (IsYard_c _ (by first | omega | assumption | (simp; omega) | (simp; done))) rfl rfl trivial nofun ?_
      refine tN (by first | omega | assumption | exact fun h => h (by assumption) | exact fun h => h rfl | exact fun h => h Iff.rfl) ?_
      refine callW.mk [] 3 _ _ _ ((own_c y hy)) rfl rfl (by repeat' first | exact trivial | assumption | exact knownSS | exact knownApp knownSS knownNil | refine And.intro ?_ ?_) nofun ?_
      iterate 6 refine Z ?_
      refine nw (by omega) (by omega) ?_
      iterate 5 refine Z ?_
      refine callW.mk [6, 3, 4, 5] 7 _ _ _ ((work_c2 y hg k a b c (y.c + 1) hk hl)) rfl rfl (by repeat' first | exact trivial | assumption | exact knownSS | exact knownApp knownSS knownNil | refine And.intro ?_ ?_) nofun ?_
      refine tN (by first | omega | assumption | exact fun h => h (by assumption) | exact fun h => h rfl | exact fun h => h Iff.rfl) ?_
      refine callW.mk [] 8 _ _ _ (hI) rfl rfl (by repeat' first | exact trivial | assumption | exact knownSS | exact knownApp knownSS knownNil | refine And.intro ?_ ?_) nofun ?_
      refine tY (by first | omega | assumption | exact rfl | exact Iff.rfl) ?_
      iterate 5 refine Z ?_
      rotate_left
      refine doneV.mk [1, 2, 3] [8, 9, 10] rfl rfl ?_ ?_ ?_
      repeat' first | exact trivial | exact rfl | exact Iff.rfl | assumption | exact pureI | exact (show _ = _ by omega) | exact (show _ ≤ _ by omega) | exact (show _ < _ by omega) | exact (show ¬ _ by omega) | refine And.intro ?_ ?_
      all_goals first | exact hd2 | exact Bool.false_ne_true | exact pureSen | exact pureCar | exact pureI
    · iterate 3 refine Z ?_
      refine callW.mk [] 3 _ _ _ (IsYard_c _ (by first | omega | assumption | (simp; omega) | (simp; done))) rfl rfl trivial nofun ?_
      refine tN (by first | omega | assumption | exact fun h => h (by assumption) | exact fun h => h rfl | exact fun h => h Iff.rfl) ?_
      refine callW.mk [] 3 _ _ _ ((own_c y hy)) rfl rfl (by repeat' first | exact trivial | assumption | exact knownSS | exact knownApp knownSS knownNil | refine And.intro ?_ ?_) nofun ?_
      iterate 6 refine Z ?_
      refine nw (by omega) (by omega) ?_
      iterate 5 refine Z ?_
      refine callW.mk [6, 3, 4, 5] 7 _ _ _ ((work_c2 y hg k a b c (y.c + 1) hk hl)) rfl rfl (by repeat' first | exact trivial | assumption | exact knownSS | exact knownApp knownSS knownNil | refine And.intro ?_ ?_) nofun ?_
      refine tY (by first | omega | assumption | exact rfl | exact Iff.rfl) ?_
      iterate 5 refine Z ?_
      rotate_left
      refine doneV.mk [1, 2, 3] [8, 9, 10] rfl rfl ?_ ?_ ?_
      repeat' first | exact trivial | exact rfl | exact Iff.rfl | assumption | exact pureI | exact (show _ = _ by omega) | exact (show _ ≤ _ by omega) | exact (show _ < _ by omega) | exact (show ¬ _ by omega) | refine And.intro ?_ ?_
      all_goals first | exact hd2 | exact Bool.false_ne_true | exact pureSen | exact pureCar | exact pureI
theorem WorkYard_k3 (y : Yd) (hg : good y) (hy : fitY 1099511627776 y) (k a b c : Int) (hk : k = 3) : C 36 [yv y, .agg [i64 k, i64 a, i64 b, i64 c]] [] (.tuple [.agg [i64 (wkR y ⟨k, a, b, c⟩).n, bv (wkR y ⟨k, a, b, c⟩).b, .loc 0, .loc 1, .loc 2, i64 (wkR y ⟨k, a, b, c⟩).c], pr (wkOk y ⟨k, a, b, c⟩)]) [row (wkR y ⟨k, a, b, c⟩).w, rowS (wkR y ⟨k, a, b, c⟩).S, rowK (wkR y ⟨k, a, b, c⟩).K] false := by
  have hc := hg.2.2.2.2
  have hf := nxt_fit ⟨k, a, b, c⟩ hg
  have ew : (made y ⟨k, a, b, c⟩).w = y.w := by first | rfl | simp [made, hk]
  have eS : (made y ⟨k, a, b, c⟩).S = (made y ⟨k, a, b, c⟩).S := by first | rfl | simp [made, hk]
  have eK : (made y ⟨k, a, b, c⟩).K = y.K := by first | rfl | simp [made, hk]
  have hI : C 57 [.agg [i64 y.n, bv y.b, ints y.w, sens (made y ⟨k, a, b, c⟩).S, cars y.K, i64 (y.c + 1)]] [] (pr (good (nxt y ⟨k, a, b, c⟩))) [] false := by
    have h := IsYard_c (nxt y ⟨k, a, b, c⟩) hf
    rw [nxt_yv] at h
    first | rwa [ew, eS, eK] at h | rwa [ew, eS] at h | rwa [eS, eK] at h | rwa [ew, eK] at h
  have h1 : (nxt y ⟨k, a, b, c⟩).w = y.w := ew
  have h2 : (nxt y ⟨k, a, b, c⟩).S = (made y ⟨k, a, b, c⟩).S := eS
  have h3 : (nxt y ⟨k, a, b, c⟩).K = y.K := eK
  refine mkC false false Try.func36 rfl ?_
  refine And.intro nofun ?_
  rw [wkR_do hg]
  by_cases hd : doOk y ⟨k, a, b, c⟩
  · rw [doR_yes hd, nxt_n, nxt_b, h1, h2, h3]
    have hm := hd.1
    have hn := hd.2
    iterate 3 refine Z ?_
    refine callW.mk [] 3 _ _ _ (IsYard_c _ (by first | omega | assumption | (simp; omega) | (simp; done))) rfl rfl trivial nofun ?_
    refine tN (by first | omega | assumption | exact fun h => h (by assumption) | exact fun h => h rfl | exact fun h => h Iff.rfl) ?_
    refine callW.mk [] 3 _ _ _ ((own_c y hy)) rfl rfl (by repeat' first | exact trivial | assumption | exact knownSS | exact knownApp knownSS knownNil | refine And.intro ?_ ?_) nofun ?_
    iterate 6 refine Z ?_
    refine nw (by omega) (by omega) ?_
    iterate 5 refine Z ?_
    refine callW.mk [6, 3, 4, 5] 7 _ _ _ ((work_c3 y hg k a b c (y.c + 1) hk)) rfl rfl (by repeat' first | exact trivial | assumption | exact knownSS | exact knownApp knownSS knownNil | refine And.intro ?_ ?_) nofun ?_
    refine tN (by first | omega | assumption | exact fun h => h (by assumption) | exact fun h => h rfl | exact fun h => h Iff.rfl) ?_
    refine callW.mk [] 8 _ _ _ (hI) rfl rfl (by repeat' first | exact trivial | assumption | exact knownSS | exact knownApp knownSS knownNil | refine And.intro ?_ ?_) nofun ?_
    refine tN (by first | omega | assumption | exact fun h => h (by assumption) | exact fun h => h rfl | exact fun h => h Iff.rfl) ?_
    iterate 4 refine Z ?_
    rotate_left
    refine doneV.mk [] [3, 7, 5] rfl rfl ?_ ?_ ?_
    repeat' first | exact trivial | exact rfl | exact Iff.rfl | assumption | exact pureI | exact (show _ = _ by omega) | exact (show _ ≤ _ by omega) | exact (show _ < _ by omega) | exact (show ¬ _ by omega) | refine And.intro ?_ ?_
    all_goals first | exact hd | exact ⟨hg, hd⟩ | exact pureSen | exact pureCar | exact pureI
  · rw [doR_no hd]
    have hd2 : ¬ wkOk y ⟨k, a, b, c⟩ := fun h => hd h.2
    by_cases hm : may y ⟨k, a, b, c⟩
    · have hn : ¬ good (nxt y ⟨k, a, b, c⟩) := fun h => hd ⟨hm, h⟩
      iterate 3 refine Z ?_
      refine callW.mk [] 3 _ _ _ (IsYard_c _ (by first | omega | assumption | (simp; omega) | (simp; done))) rfl rfl trivial nofun ?_
      refine tN (by first | omega | assumption | exact fun h => h (by assumption) | exact fun h => h rfl | exact fun h => h Iff.rfl) ?_
      refine callW.mk [] 3 _ _ _ ((own_c y hy)) rfl rfl (by repeat' first | exact trivial | assumption | exact knownSS | exact knownApp knownSS knownNil | refine And.intro ?_ ?_) nofun ?_
      iterate 6 refine Z ?_
      refine nw (by omega) (by omega) ?_
      iterate 5 refine Z ?_
      refine callW.mk [6, 3, 4, 5] 7 _ _ _ ((work_c3 y hg k a b c (y.c + 1) hk)) rfl rfl (by repeat' first | exact trivial | assumption | exact knownSS | exact knownApp knownSS knownNil | refine And.intro ?_ ?_) nofun ?_
      refine tN (by first | omega | assumption | exact fun h => h (by assumption) | exact fun h => h rfl | exact fun h => h Iff.rfl) ?_
      refine callW.mk [] 8 _ _ _ (hI) rfl rfl (by repeat' first | exact trivial | assumption | exact knownSS | exact knownApp knownSS knownNil | refine And.intro ?_ ?_) nofun ?_
      refine tY (by first | omega | assumption | exact rfl | exact Iff.rfl) ?_
      iterate 5 refine Z ?_
      rotate_left
      refine doneV.mk [1, 2, 3] [8, 9, 10] rfl rfl ?_ ?_ ?_
      repeat' first | exact trivial | exact rfl | exact Iff.rfl | assumption | exact pureI | exact (show _ = _ by omega) | exact (show _ ≤ _ by omega) | exact (show _ < _ by omega) | exact (show ¬ _ by omega) | refine And.intro ?_ ?_
      all_goals first | exact hd2 | exact Bool.false_ne_true | exact pureSen | exact pureCar | exact pureI
    · iterate 3 refine Z ?_
      refine callW.mk [] 3 _ _ _ (IsYard_c _ (by first | omega | assumption | (simp; omega) | (simp; done))) rfl rfl trivial nofun ?_
      refine tN (by first | omega | assumption | exact fun h => h (by assumption) | exact fun h => h rfl | exact fun h => h Iff.rfl) ?_
      refine callW.mk [] 3 _ _ _ ((own_c y hy)) rfl rfl (by repeat' first | exact trivial | assumption | exact knownSS | exact knownApp knownSS knownNil | refine And.intro ?_ ?_) nofun ?_
      iterate 6 refine Z ?_
      refine nw (by omega) (by omega) ?_
      iterate 5 refine Z ?_
      refine callW.mk [6, 3, 4, 5] 7 _ _ _ ((work_c3 y hg k a b c (y.c + 1) hk)) rfl rfl (by repeat' first | exact trivial | assumption | exact knownSS | exact knownApp knownSS knownNil | refine And.intro ?_ ?_) nofun ?_
      refine tY (by first | omega | assumption | exact rfl | exact Iff.rfl) ?_
      iterate 5 refine Z ?_
      rotate_left
      refine doneV.mk [1, 2, 3] [8, 9, 10] rfl rfl ?_ ?_ ?_
      repeat' first | exact trivial | exact rfl | exact Iff.rfl | assumption | exact pureI | exact (show _ = _ by omega) | exact (show _ ≤ _ by omega) | exact (show _ < _ by omega) | exact (show ¬ _ by omega) | refine And.intro ?_ ?_
      all_goals first | exact hd2 | exact Bool.false_ne_true | exact pureSen | exact pureCar | exact pureI
theorem WorkYard_k4 (y : Yd) (hg : good y) (hy : fitY 1099511627776 y) (k a b c : Int) (hk : k = 4) (ha : 0 ≤ a ∧ a < (y.S.length : Int)) : C 36 [yv y, .agg [i64 k, i64 a, i64 b, i64 c]] [] (.tuple [.agg [i64 (wkR y ⟨k, a, b, c⟩).n, bv (wkR y ⟨k, a, b, c⟩).b, .loc 0, .loc 1, .loc 2, i64 (wkR y ⟨k, a, b, c⟩).c], pr (wkOk y ⟨k, a, b, c⟩)]) [row (wkR y ⟨k, a, b, c⟩).w, rowS (wkR y ⟨k, a, b, c⟩).S, rowK (wkR y ⟨k, a, b, c⟩).K] false := by
  have hc := hg.2.2.2.2
  have hf := nxt_fit ⟨k, a, b, c⟩ hg
  have ew : (made y ⟨k, a, b, c⟩).w = y.w := by first | rfl | simp [made, hk]
  have eS : (made y ⟨k, a, b, c⟩).S = (made y ⟨k, a, b, c⟩).S := by first | rfl | simp [made, hk]
  have eK : (made y ⟨k, a, b, c⟩).K = y.K := by first | rfl | simp [made, hk]
  have hI : C 57 [.agg [i64 y.n, bv y.b, ints y.w, sens (made y ⟨k, a, b, c⟩).S, cars y.K, i64 (y.c + 1)]] [] (pr (good (nxt y ⟨k, a, b, c⟩))) [] false := by
    have h := IsYard_c (nxt y ⟨k, a, b, c⟩) hf
    rw [nxt_yv] at h
    first | rwa [ew, eS, eK] at h | rwa [ew, eS] at h | rwa [eS, eK] at h | rwa [ew, eK] at h
  have h1 : (nxt y ⟨k, a, b, c⟩).w = y.w := ew
  have h2 : (nxt y ⟨k, a, b, c⟩).S = (made y ⟨k, a, b, c⟩).S := eS
  have h3 : (nxt y ⟨k, a, b, c⟩).K = y.K := eK
  refine mkC false false Try.func36 rfl ?_
  refine And.intro nofun ?_
  rw [wkR_do hg]
  by_cases hd : doOk y ⟨k, a, b, c⟩
  · rw [doR_yes hd, nxt_n, nxt_b, h1, h2, h3]
    have hm := hd.1
    have hn := hd.2
    iterate 3 refine Z ?_
    refine callW.mk [] 3 _ _ _ (IsYard_c _ (by first | omega | assumption | (simp; omega) | (simp; done))) rfl rfl trivial nofun ?_
    refine tN (by first | omega | assumption | exact fun h => h (by assumption) | exact fun h => h rfl | exact fun h => h Iff.rfl) ?_
    refine callW.mk [] 3 _ _ _ ((own_c y hy)) rfl rfl (by repeat' first | exact trivial | assumption | exact knownSS | exact knownApp knownSS knownNil | refine And.intro ?_ ?_) nofun ?_
    iterate 6 refine Z ?_
    refine nw (by omega) (by omega) ?_
    iterate 5 refine Z ?_
    refine callW.mk [6, 3, 4, 5] 7 _ _ _ ((work_c4 y hg k a b c (y.c + 1) hk ha)) rfl rfl (by repeat' first | exact trivial | assumption | exact knownSS | exact knownApp knownSS knownNil | refine And.intro ?_ ?_) nofun ?_
    refine tN (by first | omega | assumption | exact fun h => h (by assumption) | exact fun h => h rfl | exact fun h => h Iff.rfl) ?_
    refine callW.mk [] 7 _ _ _ (hI) rfl rfl (by repeat' first | exact trivial | assumption | exact knownSS | exact knownApp knownSS knownNil | refine And.intro ?_ ?_) nofun ?_
    refine tN (by first | omega | assumption | exact fun h => h (by assumption) | exact fun h => h rfl | exact fun h => h Iff.rfl) ?_
    iterate 4 refine Z ?_
    rotate_left
    refine doneV.mk [] [3, 4, 5] rfl rfl ?_ ?_ ?_
    repeat' first | exact trivial | exact rfl | exact Iff.rfl | assumption | exact pureI | exact (show _ = _ by omega) | exact (show _ ≤ _ by omega) | exact (show _ < _ by omega) | exact (show ¬ _ by omega) | refine And.intro ?_ ?_
    all_goals first | exact hd | exact ⟨hg, hd⟩ | exact pureSen | exact pureCar | exact pureI
  · rw [doR_no hd]
    have hd2 : ¬ wkOk y ⟨k, a, b, c⟩ := fun h => hd h.2
    by_cases hm : may y ⟨k, a, b, c⟩
    · have hn : ¬ good (nxt y ⟨k, a, b, c⟩) := fun h => hd ⟨hm, h⟩
      iterate 3 refine Z ?_
      refine callW.mk [] 3 _ _ _ (IsYard_c _ (by first | omega | assumption | (simp; omega) | (simp; done))) rfl rfl trivial nofun ?_
      refine tN (by first | omega | assumption | exact fun h => h (by assumption) | exact fun h => h rfl | exact fun h => h Iff.rfl) ?_
      refine callW.mk [] 3 _ _ _ ((own_c y hy)) rfl rfl (by repeat' first | exact trivial | assumption | exact knownSS | exact knownApp knownSS knownNil | refine And.intro ?_ ?_) nofun ?_
      iterate 6 refine Z ?_
      refine nw (by omega) (by omega) ?_
      iterate 5 refine Z ?_
      refine callW.mk [6, 3, 4, 5] 7 _ _ _ ((work_c4 y hg k a b c (y.c + 1) hk ha)) rfl rfl (by repeat' first | exact trivial | assumption | exact knownSS | exact knownApp knownSS knownNil | refine And.intro ?_ ?_) nofun ?_
      refine tN (by first | omega | assumption | exact fun h => h (by assumption) | exact fun h => h rfl | exact fun h => h Iff.rfl) ?_
      refine callW.mk [] 7 _ _ _ (hI) rfl rfl (by repeat' first | exact trivial | assumption | exact knownSS | exact knownApp knownSS knownNil | refine And.intro ?_ ?_) nofun ?_
      refine tY (by first | omega | assumption | exact rfl | exact Iff.rfl) ?_
      iterate 5 refine Z ?_
      rotate_left
      refine doneV.mk [1, 2, 3] [7, 8, 9] rfl rfl ?_ ?_ ?_
      repeat' first | exact trivial | exact rfl | exact Iff.rfl | assumption | exact pureI | exact (show _ = _ by omega) | exact (show _ ≤ _ by omega) | exact (show _ < _ by omega) | exact (show ¬ _ by omega) | refine And.intro ?_ ?_
      all_goals first | exact hd2 | exact Bool.false_ne_true | exact pureSen | exact pureCar | exact pureI
    · iterate 3 refine Z ?_
      refine callW.mk [] 3 _ _ _ (IsYard_c _ (by first | omega | assumption | (simp; omega) | (simp; done))) rfl rfl trivial nofun ?_
      refine tN (by first | omega | assumption | exact fun h => h (by assumption) | exact fun h => h rfl | exact fun h => h Iff.rfl) ?_
      refine callW.mk [] 3 _ _ _ ((own_c y hy)) rfl rfl (by repeat' first | exact trivial | assumption | exact knownSS | exact knownApp knownSS knownNil | refine And.intro ?_ ?_) nofun ?_
      iterate 6 refine Z ?_
      refine nw (by omega) (by omega) ?_
      iterate 5 refine Z ?_
      refine callW.mk [6, 3, 4, 5] 7 _ _ _ ((work_c4 y hg k a b c (y.c + 1) hk ha)) rfl rfl (by repeat' first | exact trivial | assumption | exact knownSS | exact knownApp knownSS knownNil | refine And.intro ?_ ?_) nofun ?_
      refine tY (by first | omega | assumption | exact rfl | exact Iff.rfl) ?_
      iterate 5 refine Z ?_
      rotate_left
      refine doneV.mk [1, 2, 3] [7, 8, 9] rfl rfl ?_ ?_ ?_
      repeat' first | exact trivial | exact rfl | exact Iff.rfl | assumption | exact pureI | exact (show _ = _ by omega) | exact (show _ ≤ _ by omega) | exact (show _ < _ by omega) | exact (show ¬ _ by omega) | refine And.intro ?_ ?_
      all_goals first | exact hd2 | exact Bool.false_ne_true | exact pureSen | exact pureCar | exact pureI
theorem WorkYard_k5 (y : Yd) (hg : good y) (hy : fitY 1099511627776 y) (k a b c : Int) (hk : k = 5) (ha : 0 ≤ a ∧ a < (y.S.length : Int)) : C 36 [yv y, .agg [i64 k, i64 a, i64 b, i64 c]] [] (.tuple [.agg [i64 (wkR y ⟨k, a, b, c⟩).n, bv (wkR y ⟨k, a, b, c⟩).b, .loc 0, .loc 1, .loc 2, i64 (wkR y ⟨k, a, b, c⟩).c], pr (wkOk y ⟨k, a, b, c⟩)]) [row (wkR y ⟨k, a, b, c⟩).w, rowS (wkR y ⟨k, a, b, c⟩).S, rowK (wkR y ⟨k, a, b, c⟩).K] false := by
  have hc := hg.2.2.2.2
  have hf := nxt_fit ⟨k, a, b, c⟩ hg
  have ew : (made y ⟨k, a, b, c⟩).w = y.w := by first | rfl | simp [made, hk]
  have eS : (made y ⟨k, a, b, c⟩).S = (made y ⟨k, a, b, c⟩).S := by first | rfl | simp [made, hk]
  have eK : (made y ⟨k, a, b, c⟩).K = y.K := by first | rfl | simp [made, hk]
  have hI : C 57 [.agg [i64 y.n, bv y.b, ints y.w, sens (made y ⟨k, a, b, c⟩).S, cars y.K, i64 (y.c + 1)]] [] (pr (good (nxt y ⟨k, a, b, c⟩))) [] false := by
    have h := IsYard_c (nxt y ⟨k, a, b, c⟩) hf
    rw [nxt_yv] at h
    first | rwa [ew, eS, eK] at h | rwa [ew, eS] at h | rwa [eS, eK] at h | rwa [ew, eK] at h
  have h1 : (nxt y ⟨k, a, b, c⟩).w = y.w := ew
  have h2 : (nxt y ⟨k, a, b, c⟩).S = (made y ⟨k, a, b, c⟩).S := eS
  have h3 : (nxt y ⟨k, a, b, c⟩).K = y.K := eK
  refine mkC false false Try.func36 rfl ?_
  refine And.intro nofun ?_
  rw [wkR_do hg]
  by_cases hd : doOk y ⟨k, a, b, c⟩
  · rw [doR_yes hd, nxt_n, nxt_b, h1, h2, h3]
    have hm := hd.1
    have hn := hd.2
    iterate 3 refine Z ?_
    refine callW.mk [] 3 _ _ _ (IsYard_c _ (by first | omega | assumption | (simp; omega) | (simp; done))) rfl rfl trivial nofun ?_
    refine tN (by first | omega | assumption | exact fun h => h (by assumption) | exact fun h => h rfl | exact fun h => h Iff.rfl) ?_
    refine callW.mk [] 3 _ _ _ ((own_c y hy)) rfl rfl (by repeat' first | exact trivial | assumption | exact knownSS | exact knownApp knownSS knownNil | refine And.intro ?_ ?_) nofun ?_
    iterate 6 refine Z ?_
    refine nw (by omega) (by omega) ?_
    iterate 5 refine Z ?_
    refine callW.mk [6, 3, 4, 5] 7 _ _ _ ((work_c5 y hg k a b c (y.c + 1) hk ha)) rfl rfl (by repeat' first | exact trivial | assumption | exact knownSS | exact knownApp knownSS knownNil | refine And.intro ?_ ?_) nofun ?_
    refine tN (by first | omega | assumption | exact fun h => h (by assumption) | exact fun h => h rfl | exact fun h => h Iff.rfl) ?_
    refine callW.mk [] 8 _ _ _ (hI) rfl rfl (by repeat' first | exact trivial | assumption | exact knownSS | exact knownApp knownSS knownNil | refine And.intro ?_ ?_) nofun ?_
    refine tN (by first | omega | assumption | exact fun h => h (by assumption) | exact fun h => h rfl | exact fun h => h Iff.rfl) ?_
    iterate 4 refine Z ?_
    rotate_left
    refine doneV.mk [] [3, 7, 5] rfl rfl ?_ ?_ ?_
    repeat' first | exact trivial | exact rfl | exact Iff.rfl | assumption | exact pureI | exact (show _ = _ by omega) | exact (show _ ≤ _ by omega) | exact (show _ < _ by omega) | exact (show ¬ _ by omega) | refine And.intro ?_ ?_
    all_goals first | exact hd | exact ⟨hg, hd⟩ | exact pureSen | exact pureCar | exact pureI
  · rw [doR_no hd]
    have hd2 : ¬ wkOk y ⟨k, a, b, c⟩ := fun h => hd h.2
    by_cases hm : may y ⟨k, a, b, c⟩
    · have hn : ¬ good (nxt y ⟨k, a, b, c⟩) := fun h => hd ⟨hm, h⟩
      iterate 3 refine Z ?_
      refine callW.mk [] 3 _ _ _ (IsYard_c _ (by first | omega | assumption | (simp; omega) | (simp; done))) rfl rfl trivial nofun ?_
      refine tN (by first | omega | assumption | exact fun h => h (by assumption) | exact fun h => h rfl | exact fun h => h Iff.rfl) ?_
      refine callW.mk [] 3 _ _ _ ((own_c y hy)) rfl rfl (by repeat' first | exact trivial | assumption | exact knownSS | exact knownApp knownSS knownNil | refine And.intro ?_ ?_) nofun ?_
      iterate 6 refine Z ?_
      refine nw (by omega) (by omega) ?_
      iterate 5 refine Z ?_
      refine callW.mk [6, 3, 4, 5] 7 _ _ _ ((work_c5 y hg k a b c (y.c + 1) hk ha)) rfl rfl (by repeat' first | exact trivial | assumption | exact knownSS | exact knownApp knownSS knownNil | refine And.intro ?_ ?_) nofun ?_
      refine tN (by first | omega | assumption | exact fun h => h (by assumption) | exact fun h => h rfl | exact fun h => h Iff.rfl) ?_
      refine callW.mk [] 8 _ _ _ (hI) rfl rfl (by repeat' first | exact trivial | assumption | exact knownSS | exact knownApp knownSS knownNil | refine And.intro ?_ ?_) nofun ?_
      refine tY (by first | omega | assumption | exact rfl | exact Iff.rfl) ?_
      iterate 5 refine Z ?_
      rotate_left
      refine doneV.mk [1, 2, 3] [8, 9, 10] rfl rfl ?_ ?_ ?_
      repeat' first | exact trivial | exact rfl | exact Iff.rfl | assumption | exact pureI | exact (show _ = _ by omega) | exact (show _ ≤ _ by omega) | exact (show _ < _ by omega) | exact (show ¬ _ by omega) | refine And.intro ?_ ?_
      all_goals first | exact hd2 | exact Bool.false_ne_true | exact pureSen | exact pureCar | exact pureI
    · iterate 3 refine Z ?_
      refine callW.mk [] 3 _ _ _ (IsYard_c _ (by first | omega | assumption | (simp; omega) | (simp; done))) rfl rfl trivial nofun ?_
      refine tN (by first | omega | assumption | exact fun h => h (by assumption) | exact fun h => h rfl | exact fun h => h Iff.rfl) ?_
      refine callW.mk [] 3 _ _ _ ((own_c y hy)) rfl rfl (by repeat' first | exact trivial | assumption | exact knownSS | exact knownApp knownSS knownNil | refine And.intro ?_ ?_) nofun ?_
      iterate 6 refine Z ?_
      refine nw (by omega) (by omega) ?_
      iterate 5 refine Z ?_
      refine callW.mk [6, 3, 4, 5] 7 _ _ _ ((work_c5 y hg k a b c (y.c + 1) hk ha)) rfl rfl (by repeat' first | exact trivial | assumption | exact knownSS | exact knownApp knownSS knownNil | refine And.intro ?_ ?_) nofun ?_
      refine tY (by first | omega | assumption | exact rfl | exact Iff.rfl) ?_
      iterate 5 refine Z ?_
      rotate_left
      refine doneV.mk [1, 2, 3] [8, 9, 10] rfl rfl ?_ ?_ ?_
      repeat' first | exact trivial | exact rfl | exact Iff.rfl | assumption | exact pureI | exact (show _ = _ by omega) | exact (show _ ≤ _ by omega) | exact (show _ < _ by omega) | exact (show ¬ _ by omega) | refine And.intro ?_ ?_
      all_goals first | exact hd2 | exact Bool.false_ne_true | exact pureSen | exact pureCar | exact pureI
theorem WorkYard_k6 (y : Yd) (hg : good y) (hy : fitY 1099511627776 y) (k a b c : Int) (hk : k = 6) : C 36 [yv y, .agg [i64 k, i64 a, i64 b, i64 c]] [] (.tuple [.agg [i64 (wkR y ⟨k, a, b, c⟩).n, bv (wkR y ⟨k, a, b, c⟩).b, .loc 0, .loc 1, .loc 2, i64 (wkR y ⟨k, a, b, c⟩).c], pr (wkOk y ⟨k, a, b, c⟩)]) [row (wkR y ⟨k, a, b, c⟩).w, rowS (wkR y ⟨k, a, b, c⟩).S, rowK (wkR y ⟨k, a, b, c⟩).K] false := by
  have hc := hg.2.2.2.2
  have hf := nxt_fit ⟨k, a, b, c⟩ hg
  have ew : (made y ⟨k, a, b, c⟩).w = y.w := by first | rfl | simp [made, hk]
  have eS : (made y ⟨k, a, b, c⟩).S = y.S := by first | rfl | simp [made, hk]
  have eK : (made y ⟨k, a, b, c⟩).K = (made y ⟨k, a, b, c⟩).K := by first | rfl | simp [made, hk]
  have hI : C 57 [.agg [i64 y.n, bv y.b, ints y.w, sens y.S, cars (made y ⟨k, a, b, c⟩).K, i64 (y.c + 1)]] [] (pr (good (nxt y ⟨k, a, b, c⟩))) [] false := by
    have h := IsYard_c (nxt y ⟨k, a, b, c⟩) hf
    rw [nxt_yv] at h
    first | rwa [ew, eS, eK] at h | rwa [ew, eS] at h | rwa [eS, eK] at h | rwa [ew, eK] at h
  have h1 : (nxt y ⟨k, a, b, c⟩).w = y.w := ew
  have h2 : (nxt y ⟨k, a, b, c⟩).S = y.S := eS
  have h3 : (nxt y ⟨k, a, b, c⟩).K = (made y ⟨k, a, b, c⟩).K := eK
  refine mkC false false Try.func36 rfl ?_
  refine And.intro nofun ?_
  rw [wkR_do hg]
  by_cases hd : doOk y ⟨k, a, b, c⟩
  · rw [doR_yes hd, nxt_n, nxt_b, h1, h2, h3]
    have hm := hd.1
    have hn := hd.2
    iterate 3 refine Z ?_
    refine callW.mk [] 3 _ _ _ (IsYard_c _ (by first | omega | assumption | (simp; omega) | (simp; done))) rfl rfl trivial nofun ?_
    refine tN (by first | omega | assumption | exact fun h => h (by assumption) | exact fun h => h rfl | exact fun h => h Iff.rfl) ?_
    refine callW.mk [] 3 _ _ _ ((own_c y hy)) rfl rfl (by repeat' first | exact trivial | assumption | exact knownSS | exact knownApp knownSS knownNil | refine And.intro ?_ ?_) nofun ?_
    iterate 6 refine Z ?_
    refine nw (by omega) (by omega) ?_
    iterate 5 refine Z ?_
    refine callW.mk [6, 3, 4, 5] 7 _ _ _ ((work_c6 y hg k a b c (y.c + 1) hk)) rfl rfl (by repeat' first | exact trivial | assumption | exact knownSS | exact knownApp knownSS knownNil | refine And.intro ?_ ?_) nofun ?_
    refine tN (by first | omega | assumption | exact fun h => h (by assumption) | exact fun h => h rfl | exact fun h => h Iff.rfl) ?_
    refine callW.mk [] 8 _ _ _ (hI) rfl rfl (by repeat' first | exact trivial | assumption | exact knownSS | exact knownApp knownSS knownNil | refine And.intro ?_ ?_) nofun ?_
    refine tN (by first | omega | assumption | exact fun h => h (by assumption) | exact fun h => h rfl | exact fun h => h Iff.rfl) ?_
    iterate 4 refine Z ?_
    rotate_left
    refine doneV.mk [] [3, 4, 7] rfl rfl ?_ ?_ ?_
    repeat' first | exact trivial | exact rfl | exact Iff.rfl | assumption | exact pureI | exact (show _ = _ by omega) | exact (show _ ≤ _ by omega) | exact (show _ < _ by omega) | exact (show ¬ _ by omega) | refine And.intro ?_ ?_
    all_goals first | exact hd | exact ⟨hg, hd⟩ | exact pureSen | exact pureCar | exact pureI
  · rw [doR_no hd]
    have hd2 : ¬ wkOk y ⟨k, a, b, c⟩ := fun h => hd h.2
    by_cases hm : may y ⟨k, a, b, c⟩
    · have hn : ¬ good (nxt y ⟨k, a, b, c⟩) := fun h => hd ⟨hm, h⟩
      iterate 3 refine Z ?_
      refine callW.mk [] 3 _ _ _ (IsYard_c _ (by first | omega | assumption | (simp; omega) | (simp; done))) rfl rfl trivial nofun ?_
      refine tN (by first | omega | assumption | exact fun h => h (by assumption) | exact fun h => h rfl | exact fun h => h Iff.rfl) ?_
      refine callW.mk [] 3 _ _ _ ((own_c y hy)) rfl rfl (by repeat' first | exact trivial | assumption | exact knownSS | exact knownApp knownSS knownNil | refine And.intro ?_ ?_) nofun ?_
      iterate 6 refine Z ?_
      refine nw (by omega) (by omega) ?_
      iterate 5 refine Z ?_
      refine callW.mk [6, 3, 4, 5] 7 _ _ _ ((work_c6 y hg k a b c (y.c + 1) hk)) rfl rfl (by repeat' first | exact trivial | assumption | exact knownSS | exact knownApp knownSS knownNil | refine And.intro ?_ ?_) nofun ?_
      refine tN (by first | omega | assumption | exact fun h => h (by assumption) | exact fun h => h rfl | exact fun h => h Iff.rfl) ?_
      refine callW.mk [] 8 _ _ _ (hI) rfl rfl (by repeat' first | exact trivial | assumption | exact knownSS | exact knownApp knownSS knownNil | refine And.intro ?_ ?_) nofun ?_
      refine tY (by first | omega | assumption | exact rfl | exact Iff.rfl) ?_
      iterate 5 refine Z ?_
      rotate_left
      refine doneV.mk [1, 2, 3] [8, 9, 10] rfl rfl ?_ ?_ ?_
      repeat' first | exact trivial | exact rfl | exact Iff.rfl | assumption | exact pureI | exact (show _ = _ by omega) | exact (show _ ≤ _ by omega) | exact (show _ < _ by omega) | exact (show ¬ _ by omega) | refine And.intro ?_ ?_
      all_goals first | exact hd2 | exact Bool.false_ne_true | exact pureSen | exact pureCar | exact pureI
    · iterate 3 refine Z ?_
      refine callW.mk [] 3 _ _ _ (IsYard_c _ (by first | omega | assumption | (simp; omega) | (simp; done))) rfl rfl trivial nofun ?_
      refine tN (by first | omega | assumption | exact fun h => h (by assumption) | exact fun h => h rfl | exact fun h => h Iff.rfl) ?_
      refine callW.mk [] 3 _ _ _ ((own_c y hy)) rfl rfl (by repeat' first | exact trivial | assumption | exact knownSS | exact knownApp knownSS knownNil | refine And.intro ?_ ?_) nofun ?_
      iterate 6 refine Z ?_
      refine nw (by omega) (by omega) ?_
      iterate 5 refine Z ?_
      refine callW.mk [6, 3, 4, 5] 7 _ _ _ ((work_c6 y hg k a b c (y.c + 1) hk)) rfl rfl (by repeat' first | exact trivial | assumption | exact knownSS | exact knownApp knownSS knownNil | refine And.intro ?_ ?_) nofun ?_
      refine tY (by first | omega | assumption | exact rfl | exact Iff.rfl) ?_
      iterate 5 refine Z ?_
      rotate_left
      refine doneV.mk [1, 2, 3] [8, 9, 10] rfl rfl ?_ ?_ ?_
      repeat' first | exact trivial | exact rfl | exact Iff.rfl | assumption | exact pureI | exact (show _ = _ by omega) | exact (show _ ≤ _ by omega) | exact (show _ < _ by omega) | exact (show ¬ _ by omega) | refine And.intro ?_ ?_
      all_goals first | exact hd2 | exact Bool.false_ne_true | exact pureSen | exact pureCar | exact pureI
theorem WorkYard_kN (y : Yd) (hg : good y) (hy : fitY 1099511627776 y) (k a b c : Int) (hk : (k = 2 ∧ y.w.length = 1) ∨ ((k = 4 ∨ k = 5) ∧ ¬ (0 ≤ a ∧ a < (y.S.length : Int))) ∨ k < 1 ∨ 6 < k) : C 36 [yv y, .agg [i64 k, i64 a, i64 b, i64 c]] [] (.tuple [.agg [i64 (wkR y ⟨k, a, b, c⟩).n, bv (wkR y ⟨k, a, b, c⟩).b, .loc 0, .loc 1, .loc 2, i64 (wkR y ⟨k, a, b, c⟩).c], pr (wkOk y ⟨k, a, b, c⟩)]) [row (wkR y ⟨k, a, b, c⟩).w, rowS (wkR y ⟨k, a, b, c⟩).S, rowK (wkR y ⟨k, a, b, c⟩).K] false := by
  have hc := hg.2.2.2.2
  have hd2 : ¬ wkOk y ⟨k, a, b, c⟩ := fun h => by
    have := h.2.1
    simp only [may] at this
    omega
  refine mkC false false Try.func36 rfl ?_
  refine And.intro nofun ?_
  rw [wkR_no hd2]
  iterate 3 refine Z ?_
  refine callW.mk [] 3 _ _ _ (IsYard_c _ (by first | omega | assumption | (simp; omega) | (simp; done))) rfl rfl trivial nofun ?_
  refine tN (by first | omega | assumption | exact fun h => h (by assumption) | exact fun h => h rfl | exact fun h => h Iff.rfl) ?_
  refine callW.mk [] 3 _ _ _ ((own_c y hy)) rfl rfl (by repeat' first | exact trivial | assumption | exact knownSS | exact knownApp knownSS knownNil | refine And.intro ?_ ?_) nofun ?_
  iterate 6 refine Z ?_
  refine nw (by omega) (by omega) ?_
  iterate 5 refine Z ?_
  refine callW.mk [6, 3, 4, 5] 7 _ _ _ ((work_cN y hg k a b c (y.c + 1) hk)) rfl rfl (by repeat' first | exact trivial | assumption | exact knownSS | exact knownApp knownSS knownNil | refine And.intro ?_ ?_) nofun ?_
  iterate 5 refine Z ?_
  rotate_left
  refine doneV.mk [1, 2, 3] [7, 8, 9] rfl rfl ?_ ?_ ?_
  repeat' first | exact trivial | exact rfl | exact Iff.rfl | assumption | exact pureI | exact (show _ = _ by omega) | exact (show _ ≤ _ by omega) | exact (show _ < _ by omega) | exact (show ¬ _ by omega) | refine And.intro ?_ ?_
  all_goals first | exact hd2 | exact Bool.false_ne_true | exact pureSen | exact pureCar | exact pureI
theorem WorkYard_c (y : Yd) (hy : fitY 1099511627776 y) (k a b c : Int) : C 36 [yv y, .agg [i64 k, i64 a, i64 b, i64 c]] [] (.tuple [.agg [i64 (wkR y ⟨k, a, b, c⟩).n, bv (wkR y ⟨k, a, b, c⟩).b, .loc 0, .loc 1, .loc 2, i64 (wkR y ⟨k, a, b, c⟩).c], pr (wkOk y ⟨k, a, b, c⟩)]) [row (wkR y ⟨k, a, b, c⟩).w, rowS (wkR y ⟨k, a, b, c⟩).S, rowK (wkR y ⟨k, a, b, c⟩).K] false := by
  by_cases hg : good y
  · by_cases h1 : k = 1
    · exact WorkYard_k1 y hg hy k a b c h1
    by_cases h2 : k = 2
    · by_cases hl : y.w.length = 1
      · exact WorkYard_kN y hg hy k a b c (.inl ⟨h2, hl⟩)
      · exact WorkYard_k2 y hg hy k a b c h2 hl
    by_cases h3 : k = 3
    · exact WorkYard_k3 y hg hy k a b c h3
    by_cases h6 : k = 6
    · exact WorkYard_k6 y hg hy k a b c h6
    by_cases ha : 0 ≤ a ∧ a < (y.S.length : Int)
    · by_cases h4 : k = 4
      · exact WorkYard_k4 y hg hy k a b c h4 ha
      by_cases h5 : k = 5
      · exact WorkYard_k5 y hg hy k a b c h5 ha
      exact WorkYard_kN y hg hy k a b c (.inr (.inr (by omega)))
    · by_cases h4 : k = 4 ∨ k = 5
      · exact WorkYard_kN y hg hy k a b c (.inr (.inl ⟨h4, ha⟩))
      exact WorkYard_kN y hg hy k a b c (.inr (.inr (by omega)))
  · have hd : ¬ wkOk y ⟨k, a, b, c⟩ := fun h => hg h.1
    refine mkC false false Try.func36 rfl ?_
    refine And.intro nofun ?_
    rw [wkR_no hd]
    iterate 3 refine Z ?_
    refine callW.mk [] 3 _ _ _ (IsYard_c _ (by first | omega | assumption | (simp; omega) | (simp; done))) rfl rfl trivial nofun ?_
    refine tY (by first | omega | assumption | exact rfl | exact Iff.rfl) ?_
    iterate 5 refine Z ?_
    rotate_left
    refine doneV.mk [1, 2, 3] [3, 4, 5] rfl rfl ?_ ?_ ?_
    repeat' first | exact trivial | exact rfl | exact Iff.rfl | assumption | exact pureI | exact (show _ = _ by omega) | exact (show _ ≤ _ by omega) | exact (show _ < _ by omega) | exact (show ¬ _ by omega) | refine And.intro ?_ ?_
    all_goals first | exact hd | exact Bool.false_ne_true | exact pureSen | exact pureCar | exact pureI
end Sx
