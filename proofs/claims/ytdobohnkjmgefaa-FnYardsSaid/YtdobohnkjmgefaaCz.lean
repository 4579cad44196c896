/- Contracts: many jobs. -/
import Derived.Test.YtdobohnkjmgefaaCt
import Derived.Test.YtdobohnkjmgefaaCx
import Derived.Test.YtdobohnkjmgefaaMxT
set_option linter.all false
namespace Sx
open Go Go.Proofs
set_option maxRecDepth 100000
set_option maxHeartbeats 8000000
set_option linter.unusedSimpArgs false
set_option linter.unusedSectionVars false
variable [Glb]
theorem sWorkAll_c (y : Yd) (hy : fitY 1099511627776 y) (L : List Jb) (hL : L.length ≤ 1099511627776) : C 39 [yv y, jobs L] [] (.tuple [.agg [i64 (waY y L).n, bv (waY y L).b, .loc 0, .loc 1, .loc 2, i64 (waY y L).c], i64 (waN y L), pr (good y)]) [row (waY y L).w, rowS (waY y L).S, rowK (waY y L).K] false := by
  refine mkC false false Try.func39 rfl ?_
  refine And.intro nofun ?_
  by_cases hg : good y
  · iterate 2 refine Z ?_
    refine callW.mk [] 2 _ _ _ (l12Good_c _ (by first | omega | assumption | (simp; omega) | (simp; done))) rfl rfl trivial nofun ?_
    refine tN (by first | omega | assumption | exact fun h => h (by assumption) | exact fun h => h rfl | exact fun h => h Iff.rfl) ?_
    refine callW.mk [] 2 _ _ _ (l12Own_c _ (by first | omega | assumption | (simp; omega) | (simp; done))) rfl rfl trivial nofun ?_
    iterate 5 refine Z ?_
    rotate_left
    refine loop_up (β := Nat) (fun i => [(8, i64 i), (16, .unk), (5, .unk), (6, .unk)]) (fun i => [(2, row (yAt y L i).w), (3, rowS (yAt y L i).S), (4, rowK (yAt y L i).K), (5, .row .var 6 [.agg [i64 (yAt y L i).n, bv (yAt y L i).b, .loc 2, .loc 3, .loc 4, i64 (yAt y L i).c]])]) [] (fun i => i ≤ L.length ∧ ∀ x < i, okAtJ y L x) (fun i => L.length - i) (0) ?_ ?_ ?_
    · exact ⟨by omega, fun x hx => by omega⟩
    · refine weak.mk [] [0, 1, 2, 3, 4, 5] rfl rfl ?_ ?_
      repeat' first | exact trivial | exact rfl | exact Iff.rfl | assumption | exact pureI | exact (show _ = _ by omega) | exact (show _ ≤ _ by omega) | exact (show _ < _ by omega) | exact (show ¬ _ by omega) | refine And.intro ?_ ?_
    · rintro i ⟨hi, hok⟩ R hR
      have hgi := yAt_good hg hok
      have hfi := good_fit hgi
      by_cases hil : i < L.length
      · have hJ := getJ hil
        have hd := l12Do_c (yAt y L i) hgi hfi L[i].k L[i].a L[i].b L[i].c
        by_cases hdo : doOk (yAt y L i) L[i]
        · rw [show doR (yAt y L i) ⟨L[i].k, L[i].a, L[i].b, L[i].c⟩ = yAt y L (i + 1) by
            rw [show (⟨L[i].k, L[i].a, L[i].b, L[i].c⟩ : Jb) = L[i] from rfl, doR_yes hdo]
            show nxt (yAt y L i) L[i] = nxt (yAt y L i) (L.getD i z4)
            rw [hJ]] at hd
          have hdo2 : doOk (yAt y L i) ⟨L[i].k, L[i].a, L[i].b, L[i].c⟩ := hdo
          have hok2 : ∀ x < i + 1, okAtJ y L x := fun x hx => by
            by_cases e : x = i
            · subst e; unfold okAtJ; rw [hJ]; exact hdo
            · exact hok x (by omega)
          refine lm ?_
          refine tY (by first | omega | assumption | exact rfl | exact Iff.rfl) ?_
          refine drawP.mkS (Z (Z ?_))
          refine Z ?_
          apply exP.mk
          exact rfl
          apply exP.mk
          exact rfl
          apply exP.mk
          exact rfl
          apply exP.mk
          iterate 2 refine Z ?_
          refine jkm (by omega) ?_
          exact rfl
          apply exP.mk
          refine gm (by omega) ?_
          exact rfl
          refine BothP.mk ?_ ?_
          refine callW.mk [] 6 _ _ _ (hd) rfl rfl (by repeat' first | exact trivial | assumption | exact knownSS | exact knownApp knownSS knownNil | refine And.intro ?_ ?_) nofun ?_
          refine Z ?_
          apply exP.mk
          exact rfl
          apply exP.mk
          exact rfl
          apply exP.mk
          exact rfl
          iterate 11 refine Z ?_
          apply exP.mk
          exact rfl
          refine tN (by first | omega | assumption | exact fun h => h (by assumption) | exact fun h => h rfl | exact fun h => h Iff.rfl) ?_
          iterate 4 refine Z ?_
          refine nw (by omega) (by omega) ?_
          rotate_left
          iterate 5 refine Z ?_
          refine And.intro ?_ ?_
          iterate 2 refine Z ?_
          refine jkm (by omega) ?_
          exact rfl
          refine And.intro ?_ ?_
          refine gm (by omega) ?_
          exact rfl
          refine callW.mk [] 7 _ _ _ (hd) rfl rfl (by repeat' first | exact trivial | assumption | exact knownSS | exact knownApp knownSS knownNil | refine And.intro ?_ ?_) nofun ?_
          refine Z ?_
          apply exP.mk
          exact rfl
          apply exP.mk
          exact rfl
          apply exP.mk
          exact rfl
          iterate 6 refine Z ?_
          apply exP.mk
          exact rfl
          refine tN (by first | omega | assumption | exact fun h => h (by assumption) | exact fun h => h rfl | exact fun h => h Iff.rfl) ?_
          iterate 4 refine Z ?_
          refine nw (by omega) (by omega) ?_
          rotate_left
          · refine hR (i + 1) _ _ ?_ ?_
            rotate_left
            refine weak.mk [] [0, 1, 6, 7, 8, 5] rfl rfl ?_ ?_
            repeat' first | exact trivial | exact rfl | exact Iff.rfl | assumption | exact pureI | exact (show _ = _ by omega) | exact (show _ ≤ _ by omega) | exact (show _ < _ by omega) | exact (show ¬ _ by omega) | refine And.intro ?_ ?_
            rotate_right
            all_goals first | exact ⟨⟨by omega, hok2⟩, by omega⟩ | exact pureI | exact pureSen | exact pureCar
          · refine hR (i + 1) _ _ ?_ ?_
            rotate_left
            refine weak.mk [] [0, 1, 7, 8, 9, 5] rfl rfl ?_ ?_
            repeat' first | exact trivial | exact rfl | exact Iff.rfl | assumption | exact pureI | exact (show _ = _ by omega) | exact (show _ ≤ _ by omega) | exact (show _ < _ by omega) | exact (show ¬ _ by omega) | refine And.intro ?_ ?_
            rotate_right
            all_goals first | exact ⟨⟨by omega, hok2⟩, by omega⟩ | exact pureI | exact pureSen | exact pureCar
        · have hdo2 : ¬ doOk (yAt y L i) ⟨L[i].k, L[i].a, L[i].b, L[i].c⟩ := hdo
          have e : runN y L = i := run_stop hi hok (by unfold okAtJ; rw [hJ]; exact hdo)
          rw [waY_yes hg, waN_yes hg, e]
          refine lm ?_
          refine tY (by first | omega | assumption | exact rfl | exact Iff.rfl) ?_
          refine drawP.mkS (Z (Z ?_))
          refine Z ?_
          apply exP.mk
          exact rfl
          apply exP.mk
          exact rfl
          apply exP.mk
          exact rfl
          apply exP.mk
          iterate 2 refine Z ?_
          refine jkm (by omega) ?_
          exact rfl
          apply exP.mk
          refine gm (by omega) ?_
          exact rfl
          refine BothP.mk ?_ ?_
          refine callW.mk [] 6 _ _ _ (hd) rfl rfl (by repeat' first | exact trivial | assumption | exact knownSS | exact knownApp knownSS knownNil | refine And.intro ?_ ?_) nofun ?_
          refine Z ?_
          apply exP.mk
          exact rfl
          apply exP.mk
          exact rfl
          apply exP.mk
          exact rfl
          iterate 11 refine Z ?_
          apply exP.mk
          exact rfl
          refine tY (by first | omega | assumption | exact rfl | exact Iff.rfl) ?_
          iterate 4 refine Z ?_
          rotate_left
          iterate 5 refine Z ?_
          refine And.intro ?_ ?_
          iterate 2 refine Z ?_
          refine jkm (by omega) ?_
          exact rfl
          refine And.intro ?_ ?_
          refine gm (by omega) ?_
          exact rfl
          refine callW.mk [] 7 _ _ _ (hd) rfl rfl (by repeat' first | exact trivial | assumption | exact knownSS | exact knownApp knownSS knownNil | refine And.intro ?_ ?_) nofun ?_
          refine Z ?_
          apply exP.mk
          exact rfl
          apply exP.mk
          exact rfl
          apply exP.mk
          exact rfl
          iterate 6 refine Z ?_
          apply exP.mk
          exact rfl
          refine tY (by first | omega | assumption | exact rfl | exact Iff.rfl) ?_
          iterate 4 refine Z ?_
          rotate_left
          · refine doneV.mk [] [2, 3, 4] rfl rfl ?_ ?_ ?_
            repeat' first | exact trivial | exact rfl | exact Iff.rfl | assumption | exact pureI | exact (show _ = _ by omega) | exact (show _ ≤ _ by omega) | exact (show _ < _ by omega) | exact (show ¬ _ by omega) | refine And.intro ?_ ?_
            all_goals first | exact hg | exact pureI | exact pureSen | exact pureCar
          · refine doneV.mk [] [2, 3, 4] rfl rfl ?_ ?_ ?_
            repeat' first | exact trivial | exact rfl | exact Iff.rfl | assumption | exact pureI | exact (show _ = _ by omega) | exact (show _ ≤ _ by omega) | exact (show _ < _ by omega) | exact (show ¬ _ by omega) | refine And.intro ?_ ?_
            all_goals first | exact hg | exact pureI | exact pureSen | exact pureCar
      · have e : runN y L = i := by
          have : i = L.length := by omega
          subst this
          exact run_full hok
        rw [waY_yes hg, waN_yes hg, e]
        refine lm ?_
        refine tN (by first | omega | assumption | exact fun h => h (by assumption) | exact fun h => h rfl | exact fun h => h Iff.rfl) ?_
        refine lm ?_
        iterate 4 refine Z ?_
        rotate_left
        refine doneV.mk [] [2, 3, 4] rfl rfl ?_ ?_ ?_
        repeat' first | exact trivial | exact rfl | exact Iff.rfl | assumption | exact pureI | exact (show _ = _ by omega) | exact (show _ ≤ _ by omega) | exact (show _ < _ by omega) | exact (show ¬ _ by omega) | refine And.intro ?_ ?_
        all_goals first | exact hg | exact pureI | exact pureSen | exact pureCar
  · rw [waY_no hg, waN_no hg]
    iterate 2 refine Z ?_
    refine callW.mk [] 2 _ _ _ (l12Good_c _ (by first | omega | assumption | (simp; omega) | (simp; done))) rfl rfl trivial nofun ?_
    refine tY (by first | omega | assumption | exact rfl | exact Iff.rfl) ?_
    iterate 5 refine Z ?_
    rotate_left
    refine doneV.mk [1, 2, 3] [2, 3, 4] rfl rfl ?_ ?_ ?_
    repeat' first | exact trivial | exact rfl | exact Iff.rfl | assumption | exact pureI | exact (show _ = _ by omega) | exact (show _ ≤ _ by omega) | exact (show _ < _ by omega) | exact (show ¬ _ by omega) | refine And.intro ?_ ?_
    all_goals first | exact hg | exact Bool.false_ne_true | exact pureSen | exact pureCar | exact pureI
theorem WorkAll_c (y : Yd) (hy : fitY 1099511627776 y) (L : List Jb) (hL : L.length ≤ 1099511627776) : C 41 [yv y, jobs L] [] (.tuple [.agg [i64 (waY y L).n, bv (waY y L).b, .loc 0, .loc 1, .loc 2, i64 (waY y L).c], i64 (waN y L), pr (good y)]) [row (waY y L).w, rowS (waY y L).S, rowK (waY y L).K] false := by
  refine mkC false false Try.func41 rfl ?_
  refine And.intro nofun ?_
  by_cases hg : good y
  · iterate 2 refine Z ?_
    refine callW.mk [] 2 _ _ _ (IsYard_c _ (by first | omega | assumption | (simp; omega) | (simp; done))) rfl rfl trivial nofun ?_
    refine tN (by first | omega | assumption | exact fun h => h (by assumption) | exact fun h => h rfl | exact fun h => h Iff.rfl) ?_
    refine callW.mk [] 2 _ _ _ ((own_c y hy)) rfl rfl (by repeat' first | exact trivial | assumption | exact knownSS | exact knownApp knownSS knownNil | refine And.intro ?_ ?_) nofun ?_
    iterate 4 refine Z ?_
    refine lm ?_
    rotate_left
    refine loop_up (β := Nat) (fun i => [(19, i64 i), (16, .unk), (5, .unk), (6, .unk)]) (fun i => [(0, .row .var 6 [.agg [i64 (yAt y L i).n, bv (yAt y L i).b, .loc 2, .loc 3, .loc 4, i64 (yAt y L i).c]]), (2, row (yAt y L i).w), (3, rowS (yAt y L i).S), (4, rowK (yAt y L i).K)]) [] (fun i => i ≤ L.length ∧ ∀ x < i, okAtJ y L x) (fun i => L.length - i) (0) ?_ ?_ ?_
    · exact ⟨by omega, fun x hx => by omega⟩
    · refine weak.mk [] [0, 1, 2, 3, 4] rfl rfl ?_ ?_
      repeat' first | exact trivial | exact rfl | exact Iff.rfl | assumption | exact pureI | exact (show _ = _ by omega) | exact (show _ ≤ _ by omega) | exact (show _ < _ by omega) | exact (show ¬ _ by omega) | refine And.intro ?_ ?_
    · rintro i ⟨hi, hok⟩ R hR
      have hgi := yAt_good hg hok
      have hfi := good_fit hgi
      by_cases hil : i < L.length
      · have hJ := getJ hil
        have hd := WorkYard_c (yAt y L i) hfi L[i].k L[i].a L[i].b L[i].c
        rw [wkR_do hgi] at hd
        by_cases hdo : doOk (yAt y L i) L[i]
        · rw [show doR (yAt y L i) ⟨L[i].k, L[i].a, L[i].b, L[i].c⟩ = yAt y L (i + 1) by
            rw [show (⟨L[i].k, L[i].a, L[i].b, L[i].c⟩ : Jb) = L[i] from rfl, doR_yes hdo]
            show nxt (yAt y L i) L[i] = nxt (yAt y L i) (L.getD i z4)
            rw [hJ]] at hd
          have hdo2 : wkOk (yAt y L i) ⟨L[i].k, L[i].a, L[i].b, L[i].c⟩ := ⟨hgi, hdo⟩
          have hok2 : ∀ x < i + 1, okAtJ y L x := fun x hx => by
            by_cases e : x = i
            · subst e; unfold okAtJ; rw [hJ]; exact hdo
            · exact hok x (by omega)
          refine tY (by first | omega | assumption | exact rfl | exact Iff.rfl) ?_
          iterate 2 refine Z ?_
          refine jkm (by omega) ?_
          refine gm (by omega) ?_
          iterate 5 refine Z ?_
          refine callW.mk [] 6 _ _ _ (hd) rfl rfl (by repeat' first | exact trivial | assumption | exact knownSS | exact knownApp knownSS knownNil | refine And.intro ?_ ?_) nofun ?_
          iterate 5 refine Z ?_
          refine tN (by first | omega | assumption | exact fun h => h (by assumption) | exact fun h => h rfl | exact fun h => h Iff.rfl) ?_
          iterate 4 refine Z ?_
          refine nw (by omega) (by omega) ?_
          rotate_left
          refine hR (i + 1) _ _ ?_ ?_
          rotate_left
          refine weak.mk [] [0, 1, 6, 7, 8] rfl rfl ?_ ?_
          repeat' first | exact trivial | exact rfl | exact Iff.rfl | assumption | exact pureI | exact (show _ = _ by omega) | exact (show _ ≤ _ by omega) | exact (show _ < _ by omega) | exact (show ¬ _ by omega) | refine And.intro ?_ ?_
          rotate_right
          all_goals first | exact ⟨⟨by omega, hok2⟩, by omega⟩ | exact pureI | exact pureSen | exact pureCar
        · have hdo2 : ¬ wkOk (yAt y L i) ⟨L[i].k, L[i].a, L[i].b, L[i].c⟩ := fun h => hdo h.2
          have e : runN y L = i := run_stop hi hok (by unfold okAtJ; rw [hJ]; exact hdo)
          rw [waY_yes hg, waN_yes hg, e]
          refine tY (by first | omega | assumption | exact rfl | exact Iff.rfl) ?_
          iterate 2 refine Z ?_
          refine jkm (by omega) ?_
          refine gm (by omega) ?_
          iterate 5 refine Z ?_
          refine callW.mk [] 6 _ _ _ (hd) rfl rfl (by repeat' first | exact trivial | assumption | exact knownSS | exact knownApp knownSS knownNil | refine And.intro ?_ ?_) nofun ?_
          iterate 5 refine Z ?_
          refine tY (by first | omega | assumption | exact rfl | exact Iff.rfl) ?_
          iterate 4 refine Z ?_
          rotate_left
          refine doneV.mk [] [2, 3, 4] rfl rfl ?_ ?_ ?_
          repeat' first | exact trivial | exact rfl | exact Iff.rfl | assumption | exact pureI | exact (show _ = _ by omega) | exact (show _ ≤ _ by omega) | exact (show _ < _ by omega) | exact (show ¬ _ by omega) | refine And.intro ?_ ?_
          all_goals first | exact hg | exact pureI | exact pureSen | exact pureCar
      · have e : runN y L = i := by
          have : i = L.length := by omega
          subst this
          exact run_full hok
        rw [waY_yes hg, waN_yes hg, e]
        refine tN (by first | omega | assumption | exact fun h => h (by assumption) | exact fun h => h rfl | exact fun h => h Iff.rfl) ?_
        refine lm ?_
        iterate 4 refine Z ?_
        rotate_left
        refine doneV.mk [] [2, 3, 4] rfl rfl ?_ ?_ ?_
        repeat' first | exact trivial | exact rfl | exact Iff.rfl | assumption | exact pureI | exact (show _ = _ by omega) | exact (show _ ≤ _ by omega) | exact (show _ < _ by omega) | exact (show ¬ _ by omega) | refine And.intro ?_ ?_
        all_goals first | exact hg | exact pureI | exact pureSen | exact pureCar
  · rw [waY_no hg, waN_no hg]
    iterate 2 refine Z ?_
    refine callW.mk [] 2 _ _ _ (IsYard_c _ (by first | omega | assumption | (simp; omega) | (simp; done))) rfl rfl trivial nofun ?_
    refine tY (by first | omega | assumption | exact rfl | exact Iff.rfl) ?_
    iterate 5 refine Z ?_
    rotate_left
    refine doneV.mk [1, 2, 3] [2, 3, 4] rfl rfl ?_ ?_ ?_
    repeat' first | exact trivial | exact rfl | exact Iff.rfl | assumption | exact pureI | exact (show _ = _ by omega) | exact (show _ ≤ _ by omega) | exact (show _ < _ by omega) | exact (show ¬ _ by omega) | refine And.intro ?_ ?_
    all_goals first | exact hg | exact Bool.false_ne_true | exact pureSen | exact pureCar | exact pureI
end Sx
