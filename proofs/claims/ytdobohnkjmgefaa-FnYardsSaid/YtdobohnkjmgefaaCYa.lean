/- Contracts: the law of yards. -/
import Derived.Test.YtdobohnkjmgefaaCDd
import Derived.Test.YtdobohnkjmgefaaCVa
import Derived.Test.YtdobohnkjmgefaaCx
import Derived.Test.YtdobohnkjmgefaaCz
import Derived.Test.YtdobohnkjmgefaaMxV
set_option linter.all false
namespace Sx
open Go Go.Proofs
set_option maxRecDepth 100000
set_option maxHeartbeats 8000000
set_option linter.unusedSimpArgs false
set_option linter.unusedSectionVars false
variable [Glb]
theorem fit100 {y : Yd} (h : fitY 100 y) : fitY 1099511627776 y := ⟨by omega, by omega, by omega⟩
theorem newW_f (n a : Int) : fitY 1099511627776 (newW n a) := by
  have h := newW_fit n a
  refine ⟨by omega, ?_, ?_⟩
  · rw [h.2.1]; decide
  · rw [h.2.2]; decide
theorem backWork_c (y : Yd) (k a b c : Int) (h : wkOk y ⟨k, a, b, c⟩) (hk : k = 1) (hc : ¬ (wkR y ⟨k, a, b, c⟩).c = 1000) : C 36 [yv (wkR y ⟨k, a, b, c⟩), .agg [i64 2, i64 0, i64 0, i64 0]] [] (.tuple [.agg [i64 y.n, bv y.b, .loc 0, .loc 1, .loc 2, i64 (y.c + 2)], pr (wkOk (wkR y ⟨k, a, b, c⟩) ⟨2, 0, 0, 0⟩)]) [row y.w, rowS y.S, rowK y.K] false := by
  have e := WorkYard_c (wkR y ⟨k, a, b, c⟩) (wkR_fit _) 2 0 0 0
  rw [(back_step h hk hc).2] at e
  exact e
theorem dropWork_c (y : Yd) (k a b c : Int) (h : wkOk y ⟨k, a, b, c⟩) (hk : k = 3) (hc : ¬ (wkR y ⟨k, a, b, c⟩).c = 1000) : C 36 [yv (wkR y ⟨k, a, b, c⟩), .agg [i64 5, i64 y.S.length, i64 0, i64 0]] [] (.tuple [.agg [i64 y.n, bv y.b, .loc 0, .loc 1, .loc 2, i64 (y.c + 2)], pr (wkOk (wkR y ⟨k, a, b, c⟩) ⟨5, y.S.length, 0, 0⟩)]) [row y.w, rowS y.S, rowK y.K] false := by
  have e := WorkYard_c (wkR y ⟨k, a, b, c⟩) (wkR_fit _) 5 y.S.length 0 0
  rw [(back_sensor h hk hc).2] at e
  exact e
theorem FnYards_c (L : List UInt8) (hL : L.length ≤ 9223372036854775807) : C 9 [.sl 1 (L.map i8)] [] .tt [] false := by
  have sd1 := newW_f
  have sd2 : ∀ y j, fitY 1099511627776 (wkR y j) := fun y j => wkR_fit j
  have sd3 : ∀ y L, fitY 1099511627776 (waY y L) := fun y L => waY_fit
  have sd4 : ∀ y : Yd, fitY 100 y → fitY 1099511627776 y := fun y h => fit100 h
  refine mkC false false Try.func9 rfl ?_
  refine And.intro nofun ?_
  by_cases hb : 65536 < (L.length : Int)
  · refine callW.mk [] 0 _ _ _ (vBig_c _ (by first | omega | assumption | (simp; omega) | (simp; done) | exact trivial | (apply sd1 <;> first | omega | assumption) | (apply sd2 <;> first | omega | assumption) | (apply sd3 <;> first | omega | assumption) | (apply sd4 <;> first | omega | assumption))) rfl rfl trivial nofun ?_
    refine tY (by first | omega | assumption | exact rfl | exact Iff.rfl) ?_
    rotate_left
    refine doneV.mk [] [] rfl rfl ?_ ?_ ?_
    repeat' first | exact trivial | exact rfl | exact Iff.rfl | assumption | exact pureI | exact (show _ = _ by omega) | exact (show _ ≤ _ by omega) | exact (show _ < _ by omega) | exact (show ¬ _ by omega) | refine And.intro ?_ ?_
  · refine callW.mk [] 0 _ _ _ (vBig_c _ (by first | omega | assumption | (simp; omega) | (simp; done) | exact trivial | (apply sd1 <;> first | omega | assumption) | (apply sd2 <;> first | omega | assumption) | (apply sd3 <;> first | omega | assumption) | (apply sd4 <;> first | omega | assumption))) rfl rfl trivial nofun ?_
    refine tN (by first | omega | assumption | exact fun h => h (by assumption) | exact fun h => h rfl | exact fun h => h Iff.rfl) ?_
    refine callW.mkE [] [] 0 _ _ _ _ (DrawNewYard_c _ (by first | omega | assumption | (simp; omega) | (simp; done) | exact trivial | (apply sd1 <;> first | omega | assumption) | (apply sd2 <;> first | omega | assumption) | (apply sd3 <;> first | omega | assumption) | (apply sd4 <;> first | omega | assumption))) rfl rfl trivial nofun (fun _ _ => ?_)
    refine callW.mk [] 0 _ _ _ (NewYard_c _ _) rfl rfl trivial nofun ?_
    iterate 5 refine Z ?_
    refine callW.mk [] 4 _ _ _ (sNewYard_c _ _) rfl rfl trivial nofun ?_
    iterate 5 refine Z ?_
    refine callW.mkE [] [] 8 _ _ _ _ (vCut_c _ (by first | omega | assumption | (simp; omega) | (simp; done) | exact trivial | (apply sd1 <;> first | omega | assumption) | (apply sd2 <;> first | omega | assumption) | (apply sd3 <;> first | omega | assumption) | (apply sd4 <;> first | omega | assumption)) _ (by first | omega | assumption | (simp; omega) | (simp; done) | exact trivial | (apply sd1 <;> first | omega | assumption) | (apply sd2 <;> first | omega | assumption) | (apply sd3 <;> first | omega | assumption) | (apply sd4 <;> first | omega | assumption))) rfl rfl trivial nofun (fun _ _ => ?_)
    refine callW.mkE [] [] 9 _ _ _ _ (DrawWorkYard_c _ (by first | omega | assumption | (simp; omega) | (simp; done) | exact trivial | (apply sd1 <;> first | omega | assumption) | (apply sd2 <;> first | omega | assumption) | (apply sd3 <;> first | omega | assumption) | (apply sd4 <;> first | omega | assumption))) rfl rfl trivial nofun (fun _ _ => ?_)
    iterate 10 refine Z ?_
    refine callW.mk [] 14 _ _ _ (WorkYard_c _ (by first | omega | assumption | (simp; omega) | (simp; done) | exact trivial | (apply sd1 <;> first | omega | assumption) | (apply sd2 <;> first | omega | assumption) | (apply sd3 <;> first | omega | assumption) | (apply sd4 <;> first | omega | assumption)) _ _ _ _) rfl rfl trivial nofun ?_
    iterate 5 refine Z ?_
    refine callW.mk [] 18 _ _ _ (sWorkYard_c _ (by first | omega | assumption | (simp; omega) | (simp; done) | exact trivial | (apply sd1 <;> first | omega | assumption) | (apply sd2 <;> first | omega | assumption) | (apply sd3 <;> first | omega | assumption) | (apply sd4 <;> first | omega | assumption)) _ _ _ _) rfl rfl trivial nofun ?_
    iterate 5 refine Z ?_
    refine callW.mkE [] [] 22 _ _ _ _ (vCut_c _ (by first | omega | assumption | (simp; omega) | (simp; done) | exact trivial | (apply sd1 <;> first | omega | assumption) | (apply sd2 <;> first | omega | assumption) | (apply sd3 <;> first | omega | assumption) | (apply sd4 <;> first | omega | assumption)) _ (by first | omega | assumption | (simp; omega) | (simp; done) | exact trivial | (apply sd1 <;> first | omega | assumption) | (apply sd2 <;> first | omega | assumption) | (apply sd3 <;> first | omega | assumption) | (apply sd4 <;> first | omega | assumption))) rfl rfl trivial nofun (fun _ _ => ?_)
    refine callW.mkE [] [] 23 _ _ _ _ (DrawWorkAll_c _ (by first | omega | assumption | (simp; omega) | (simp; done) | exact trivial | (apply sd1 <;> first | omega | assumption) | (apply sd2 <;> first | omega | assumption) | (apply sd3 <;> first | omega | assumption) | (apply sd4 <;> first | omega | assumption))) rfl rfl trivial nofun (fun _ _ => ?_)
    iterate 5 refine Z ?_
    refine callW.mk [] 28 _ _ _ (WorkAll_c _ (by first | omega | assumption | (simp; omega) | (simp; done) | exact trivial | (apply sd1 <;> first | omega | assumption) | (apply sd2 <;> first | omega | assumption) | (apply sd3 <;> first | omega | assumption) | (apply sd4 <;> first | omega | assumption)) _ (by first | omega | assumption | (simp; omega) | (simp; done) | exact trivial | (apply sd1 <;> first | omega | assumption) | (apply sd2 <;> first | omega | assumption) | (apply sd3 <;> first | omega | assumption) | (apply sd4 <;> first | omega | assumption))) rfl rfl trivial nofun ?_
    iterate 5 refine Z ?_
    refine callW.mk [] 32 _ _ _ (sWorkAll_c _ (by first | omega | assumption | (simp; omega) | (simp; done) | exact trivial | (apply sd1 <;> first | omega | assumption) | (apply sd2 <;> first | omega | assumption) | (apply sd3 <;> first | omega | assumption) | (apply sd4 <;> first | omega | assumption)) _ (by first | omega | assumption | (simp; omega) | (simp; done) | exact trivial | (apply sd1 <;> first | omega | assumption) | (apply sd2 <;> first | omega | assumption) | (apply sd3 <;> first | omega | assumption) | (apply sd4 <;> first | omega | assumption))) rfl rfl trivial nofun ?_
    iterate 5 refine Z ?_
    refine drawP.mk 43 (Z (Z (Z (Z ?_))))
    apply exP.mk
    exact rfl
    apply exP.mk
    exact rfl
    apply exP.mk
    exact rfl
    apply exP.mk
    exact rfl
    refine tN (by first | omega | assumption | exact fun h => h (by assumption) | exact fun h => h rfl | exact fun h => h Iff.rfl) ?_
    apply exP.mk
    exact rfl
    apply exP.mk
    exact rfl
    apply exP.mk
    refine callP.mk _ _ _ (vYard_c _ _ (by first | omega | assumption | (simp; omega) | (simp; done) | exact trivial | (apply sd1 <;> first | omega | assumption) | (apply sd2 <;> first | omega | assumption) | (apply sd3 <;> first | omega | assumption) | (apply sd4 <;> first | omega | assumption)) (by first | omega | assumption | (simp; omega) | (simp; done) | exact trivial | (apply sd1 <;> first | omega | assumption) | (apply sd2 <;> first | omega | assumption) | (apply sd3 <;> first | omega | assumption) | (apply sd4 <;> first | omega | assumption))) trivial nofun trivial ?_
    exact rfl
    apply exP.mk
    exact rfl
    apply exP.mk
    exact rfl
    refine tN (by first | omega | assumption | exact fun h => h (by assumption) | exact fun h => h rfl | exact fun h => h Iff.rfl) ?_
    apply exP.mk
    exact rfl
    apply exP.mk
    exact rfl
    apply exP.mk
    exact rfl
    apply exP.mk
    exact rfl
    refine tN (by first | omega | assumption | exact fun h => h (by assumption) | exact fun h => h rfl | exact fun h => h Iff.rfl) ?_
    apply exP.mk
    exact rfl
    apply exP.mk
    exact rfl
    apply exP.mk
    refine callP.mk _ _ _ (vYard_c _ _ (by first | omega | assumption | (simp; omega) | (simp; done) | exact trivial | (apply sd1 <;> first | omega | assumption) | (apply sd2 <;> first | omega | assumption) | (apply sd3 <;> first | omega | assumption) | (apply sd4 <;> first | omega | assumption)) (by first | omega | assumption | (simp; omega) | (simp; done) | exact trivial | (apply sd1 <;> first | omega | assumption) | (apply sd2 <;> first | omega | assumption) | (apply sd3 <;> first | omega | assumption) | (apply sd4 <;> first | omega | assumption))) trivial nofun trivial ?_
    exact rfl
    apply exP.mk
    exact rfl
    apply exP.mk
    exact rfl
    refine tN (by first | omega | assumption | exact fun h => h (by assumption) | exact fun h => h rfl | exact fun h => h Iff.rfl) ?_
    apply exP.mk
    exact rfl
    apply exP.mk
    exact rfl
    apply exP.mk
    exact rfl
    apply exP.mk
    exact rfl
    refine tN (by first | omega | assumption | exact fun h => h (by assumption) | exact fun h => h rfl | exact fun h => h Iff.rfl) ?_
    apply exP.mk
    exact rfl
    apply exP.mk
    exact rfl
    apply exP.mk
    exact rfl
    apply exP.mk
    exact rfl
    refine tN (by first | omega | assumption | exact fun h => h (by assumption) | exact fun h => h rfl | exact fun h => h Iff.rfl) ?_
    apply exP.mk
    exact rfl
    apply exP.mk
    exact rfl
    apply exP.mk
    refine callP.mk _ _ _ (vYard_c _ _ (by first | omega | assumption | (simp; omega) | (simp; done) | exact trivial | (apply sd1 <;> first | omega | assumption) | (apply sd2 <;> first | omega | assumption) | (apply sd3 <;> first | omega | assumption) | (apply sd4 <;> first | omega | assumption)) (by first | omega | assumption | (simp; omega) | (simp; done) | exact trivial | (apply sd1 <;> first | omega | assumption) | (apply sd2 <;> first | omega | assumption) | (apply sd3 <;> first | omega | assumption) | (apply sd4 <;> first | omega | assumption))) trivial nofun trivial ?_
    exact rfl
    apply exP.mk
    exact rfl
    apply exP.mk
    exact rfl
    refine tN (by first | omega | assumption | exact fun h => h (by assumption) | exact fun h => h rfl | exact fun h => h Iff.rfl) ?_
    apply exP.mk
    exact rfl
    apply exP.mk
    refine callP.mk _ _ _ (IsYard_c _ (by first | omega | assumption | (simp; omega) | (simp; done) | exact trivial | (apply sd1 <;> first | omega | assumption) | (apply sd2 <;> first | omega | assumption) | (apply sd3 <;> first | omega | assumption) | (apply sd4 <;> first | omega | assumption))) trivial nofun trivial ?_
    exact rfl
    apply exP.mk
    exact rfl
    apply exP.mk
    refine callP.mk _ _ _ (sIsYard_c _ (by first | omega | assumption | (simp; omega) | (simp; done) | exact trivial | (apply sd1 <;> first | omega | assumption) | (apply sd2 <;> first | omega | assumption) | (apply sd3 <;> first | omega | assumption) | (apply sd4 <;> first | omega | assumption))) trivial nofun trivial ?_
    exact rfl
    apply exP.mk
    exact rfl
    refine tN (by first | omega | assumption | exact fun h => h (by assumption) | exact fun h => h rfl | exact fun h => h Iff.rfl) ?_
    refine twoP.mk (fun _ => ?_) (fun _ => ?_)
    refine callW.mk [] 36 _ _ _ (IsYard_c _ (by first | omega | assumption | (simp; omega) | (simp; done) | exact trivial | (apply sd1 <;> first | omega | assumption) | (apply sd2 <;> first | omega | assumption) | (apply sd3 <;> first | omega | assumption) | (apply sd4 <;> first | omega | assumption))) rfl rfl trivial nofun ?_
    refine twoN (fun _ => ?_) (fun _ => ?_)
    rotate_left
    refine twoN (fun _ => ?_) (fun _ => ?_)
    rotate_left
    refine callW.mk [] 36 _ _ _ (IsYard_c _ (by first | omega | assumption | (simp; omega) | (simp; done) | exact trivial | (apply sd1 <;> first | omega | assumption) | (apply sd2 <;> first | omega | assumption) | (apply sd3 <;> first | omega | assumption) | (apply sd4 <;> first | omega | assumption))) rfl rfl trivial nofun ?_
    refine twoN (fun _ => ?_) (fun _ => ?_)
    rotate_left
    iterate 2 refine Z ?_
    rotate_left
    refine twoN (fun _ => ?_) (fun _ => ?_)
    rotate_left
    refine callW.mk [] 36 _ _ _ (IsYard_c _ (by first | omega | assumption | (simp; omega) | (simp; done) | exact trivial | (apply sd1 <;> first | omega | assumption) | (apply sd2 <;> first | omega | assumption) | (apply sd3 <;> first | omega | assumption) | (apply sd4 <;> first | omega | assumption))) rfl rfl trivial nofun ?_
    refine twoN (fun _ => ?_) (fun _ => ?_)
    rotate_left
    iterate 2 refine Z ?_
    rotate_left
    · rename_i e1 _ V1 _ e2 h2 V2 _ e3 h3 g1 g2
      exact absurd (waY_good g1) g2
    · refine doneV.mk [] [] rfl rfl ?_ ?_ ?_
      repeat' first | exact trivial | exact rfl | exact Iff.rfl | assumption | exact pureI | exact (show _ = _ by omega) | exact (show _ ≤ _ by omega) | exact (show _ < _ by omega) | exact (show ¬ _ by omega) | refine And.intro ?_ ?_
    · rename_i e1 _ V1 _ e2 h2 V2 _ e3 h3 g1 g2 w g3
      exact absurd (wkR_good w) g3
    · rename_i e1 _ V1 _ e2 h2 V2 _ e3 h3 g1 g2 w g3
      have hc := wkR_c w
      have hb := g3.2.2.2.2
      have hb0 := w.1.2.2.2.2
      have hS := w.1.2.2.1.2
      by_cases hm : (wkR e2.1 ⟨e2.2.k, e2.2.a, e2.2.b, e2.2.c⟩).c = 1000
      · refine nw (by omega) (by omega) ?_
        refine tN (by first | omega | assumption | exact fun h => h (by assumption) | exact fun h => h rfl | exact fun h => h Iff.rfl) ?_
        refine Z ?_
        refine tY (by first | omega | assumption | exact rfl | exact Iff.rfl) ?_
        rotate_left
        refine doneV.mk [] [] rfl rfl ?_ ?_ ?_
        repeat' first | exact trivial | exact rfl | exact Iff.rfl | assumption | exact pureI | exact (show _ = _ by omega) | exact (show _ ≤ _ by omega) | exact (show _ < _ by omega) | exact (show ¬ _ by omega) | refine And.intro ?_ ?_
      · by_cases hk1 : e2.2.k = 1
        · have hd := (back_step w hk1 hm).1
          refine nw (by omega) (by omega) ?_
          refine tN (by first | omega | assumption | exact fun h => h (by assumption) | exact fun h => h rfl | exact fun h => h Iff.rfl) ?_
          refine Z ?_
          refine tN (by first | omega | assumption | exact fun h => h (by assumption) | exact fun h => h rfl | exact fun h => h Iff.rfl) ?_
          refine Z ?_
          refine tN (by first | omega | assumption | exact fun h => h (by assumption) | exact fun h => h rfl | exact fun h => h Iff.rfl) ?_
          iterate 10 refine Z ?_
          refine tN (by first | omega | assumption | exact fun h => h (by assumption) | exact fun h => h rfl | exact fun h => h Iff.rfl) ?_
          refine callW.mk [] 37 _ _ _ ((backWork_c e2.1 e2.2.k e2.2.a e2.2.b e2.2.c w hk1 hm)) rfl rfl (by repeat' first | exact trivial | assumption | exact knownSS | exact knownApp knownSS knownNil | refine And.intro ?_ ?_) nofun ?_
          iterate 11 refine Z ?_
          refine tY (by first | omega | assumption | exact rfl | exact Iff.rfl) ?_
          refine callW.mk [] 41 _ _ _ (vYard_c _ _ (by first | omega | assumption | (simp; omega) | (simp; done) | exact trivial | (apply sd1 <;> first | omega | assumption) | (apply sd2 <;> first | omega | assumption) | (apply sd3 <;> first | omega | assumption) | (apply sd4 <;> first | omega | assumption)) (by first | omega | assumption | (simp; omega) | (simp; done) | exact trivial | (apply sd1 <;> first | omega | assumption) | (apply sd2 <;> first | omega | assumption) | (apply sd3 <;> first | omega | assumption) | (apply sd4 <;> first | omega | assumption))) rfl rfl trivial nofun ?_
          rotate_left
          refine doneV.mk [] [] rfl rfl ?_ ?_ ?_
          repeat' first | exact trivial | exact rfl | exact Iff.rfl | assumption | exact pureI | exact (show _ = _ by omega) | exact (show _ ≤ _ by omega) | exact (show _ < _ by omega) | exact (show ¬ _ by omega) | refine And.intro ?_ ?_
        · by_cases hk3 : e2.2.k = 3
          · have hd := (back_sensor w hk3 hm).1
            refine nw (by omega) (by omega) ?_
            refine tN (by first | omega | assumption | exact fun h => h (by assumption) | exact fun h => h rfl | exact fun h => h Iff.rfl) ?_
            refine Z ?_
            refine tN (by first | omega | assumption | exact fun h => h (by assumption) | exact fun h => h rfl | exact fun h => h Iff.rfl) ?_
            refine Z ?_
            refine tY (by first | omega | assumption | exact rfl | exact Iff.rfl) ?_
            refine Z ?_
            refine tN (by first | omega | assumption | exact fun h => h (by assumption) | exact fun h => h rfl | exact fun h => h Iff.rfl) ?_
            iterate 10 refine Z ?_
            refine tY (by first | omega | assumption | exact rfl | exact Iff.rfl) ?_
            refine Z ?_
            refine lm ?_
            iterate 11 refine Z ?_
            refine callW.mk [] 37 _ _ _ ((dropWork_c e2.1 e2.2.k e2.2.a e2.2.b e2.2.c w hk3 hm)) rfl rfl (by repeat' first | exact trivial | assumption | exact knownSS | exact knownApp knownSS knownNil | refine And.intro ?_ ?_) nofun ?_
            iterate 11 refine Z ?_
            refine tY (by first | omega | assumption | exact rfl | exact Iff.rfl) ?_
            refine callW.mk [] 41 _ _ _ (vYard_c _ _ (by first | omega | assumption | (simp; omega) | (simp; done) | exact trivial | (apply sd1 <;> first | omega | assumption) | (apply sd2 <;> first | omega | assumption) | (apply sd3 <;> first | omega | assumption) | (apply sd4 <;> first | omega | assumption)) (by first | omega | assumption | (simp; omega) | (simp; done) | exact trivial | (apply sd1 <;> first | omega | assumption) | (apply sd2 <;> first | omega | assumption) | (apply sd3 <;> first | omega | assumption) | (apply sd4 <;> first | omega | assumption))) rfl rfl trivial nofun ?_
            rotate_left
            refine doneV.mk [] [] rfl rfl ?_ ?_ ?_
            repeat' first | exact trivial | exact rfl | exact Iff.rfl | assumption | exact pureI | exact (show _ = _ by omega) | exact (show _ ≤ _ by omega) | exact (show _ < _ by omega) | exact (show ¬ _ by omega) | refine And.intro ?_ ?_
          · refine nw (by omega) (by omega) ?_
            refine tN (by first | omega | assumption | exact fun h => h (by assumption) | exact fun h => h rfl | exact fun h => h Iff.rfl) ?_
            refine Z ?_
            refine tN (by first | omega | assumption | exact fun h => h (by assumption) | exact fun h => h rfl | exact fun h => h Iff.rfl) ?_
            refine Z ?_
            refine tY (by first | omega | assumption | exact rfl | exact Iff.rfl) ?_
            refine Z ?_
            refine tY (by first | omega | assumption | exact rfl | exact Iff.rfl) ?_
            rotate_left
            refine doneV.mk [] [] rfl rfl ?_ ?_ ?_
            repeat' first | exact trivial | exact rfl | exact Iff.rfl | assumption | exact pureI | exact (show _ = _ by omega) | exact (show _ ≤ _ by omega) | exact (show _ < _ by omega) | exact (show ¬ _ by omega) | refine And.intro ?_ ?_
    · refine doneV.mk [] [] rfl rfl ?_ ?_ ?_
      repeat' first | exact trivial | exact rfl | exact Iff.rfl | assumption | exact pureI | exact (show _ = _ by omega) | exact (show _ ≤ _ by omega) | exact (show _ < _ by omega) | exact (show ¬ _ by omega) | refine And.intro ?_ ?_
    · rename_i e1 _ V1 _ e2 h2 V2 _ e3 h3 g1 w g3
      exact absurd (wkR_good w) g3
    · rename_i e1 _ V1 _ e2 h2 V2 _ e3 h3 g1 w g3
      have hc := wkR_c w
      have hb := g3.2.2.2.2
      have hb0 := w.1.2.2.2.2
      have hS := w.1.2.2.1.2
      by_cases hm : (wkR e2.1 ⟨e2.2.k, e2.2.a, e2.2.b, e2.2.c⟩).c = 1000
      · refine nw (by omega) (by omega) ?_
        refine tN (by first | omega | assumption | exact fun h => h (by assumption) | exact fun h => h rfl | exact fun h => h Iff.rfl) ?_
        refine Z ?_
        refine tY (by first | omega | assumption | exact rfl | exact Iff.rfl) ?_
        rotate_left
        refine doneV.mk [] [] rfl rfl ?_ ?_ ?_
        repeat' first | exact trivial | exact rfl | exact Iff.rfl | assumption | exact pureI | exact (show _ = _ by omega) | exact (show _ ≤ _ by omega) | exact (show _ < _ by omega) | exact (show ¬ _ by omega) | refine And.intro ?_ ?_
      · by_cases hk1 : e2.2.k = 1
        · have hd := (back_step w hk1 hm).1
          refine nw (by omega) (by omega) ?_
          refine tN (by first | omega | assumption | exact fun h => h (by assumption) | exact fun h => h rfl | exact fun h => h Iff.rfl) ?_
          refine Z ?_
          refine tN (by first | omega | assumption | exact fun h => h (by assumption) | exact fun h => h rfl | exact fun h => h Iff.rfl) ?_
          refine Z ?_
          refine tN (by first | omega | assumption | exact fun h => h (by assumption) | exact fun h => h rfl | exact fun h => h Iff.rfl) ?_
          iterate 10 refine Z ?_
          refine tN (by first | omega | assumption | exact fun h => h (by assumption) | exact fun h => h rfl | exact fun h => h Iff.rfl) ?_
          refine callW.mk [] 37 _ _ _ ((backWork_c e2.1 e2.2.k e2.2.a e2.2.b e2.2.c w hk1 hm)) rfl rfl (by repeat' first | exact trivial | assumption | exact knownSS | exact knownApp knownSS knownNil | refine And.intro ?_ ?_) nofun ?_
          iterate 11 refine Z ?_
          refine tY (by first | omega | assumption | exact rfl | exact Iff.rfl) ?_
          refine callW.mk [] 41 _ _ _ (vYard_c _ _ (by first | omega | assumption | (simp; omega) | (simp; done) | exact trivial | (apply sd1 <;> first | omega | assumption) | (apply sd2 <;> first | omega | assumption) | (apply sd3 <;> first | omega | assumption) | (apply sd4 <;> first | omega | assumption)) (by first | omega | assumption | (simp; omega) | (simp; done) | exact trivial | (apply sd1 <;> first | omega | assumption) | (apply sd2 <;> first | omega | assumption) | (apply sd3 <;> first | omega | assumption) | (apply sd4 <;> first | omega | assumption))) rfl rfl trivial nofun ?_
          rotate_left
          refine doneV.mk [] [] rfl rfl ?_ ?_ ?_
          repeat' first | exact trivial | exact rfl | exact Iff.rfl | assumption | exact pureI | exact (show _ = _ by omega) | exact (show _ ≤ _ by omega) | exact (show _ < _ by omega) | exact (show ¬ _ by omega) | refine And.intro ?_ ?_
        · by_cases hk3 : e2.2.k = 3
          · have hd := (back_sensor w hk3 hm).1
            refine nw (by omega) (by omega) ?_
            refine tN (by first | omega | assumption | exact fun h => h (by assumption) | exact fun h => h rfl | exact fun h => h Iff.rfl) ?_
            refine Z ?_
            refine tN (by first | omega | assumption | exact fun h => h (by assumption) | exact fun h => h rfl | exact fun h => h Iff.rfl) ?_
            refine Z ?_
            refine tY (by first | omega | assumption | exact rfl | exact Iff.rfl) ?_
            refine Z ?_
            refine tN (by first | omega | assumption | exact fun h => h (by assumption) | exact fun h => h rfl | exact fun h => h Iff.rfl) ?_
            iterate 10 refine Z ?_
            refine tY (by first | omega | assumption | exact rfl | exact Iff.rfl) ?_
            refine Z ?_
            refine lm ?_
            iterate 11 refine Z ?_
            refine callW.mk [] 37 _ _ _ ((dropWork_c e2.1 e2.2.k e2.2.a e2.2.b e2.2.c w hk3 hm)) rfl rfl (by repeat' first | exact trivial | assumption | exact knownSS | exact knownApp knownSS knownNil | refine And.intro ?_ ?_) nofun ?_
            iterate 11 refine Z ?_
            refine tY (by first | omega | assumption | exact rfl | exact Iff.rfl) ?_
            refine callW.mk [] 41 _ _ _ (vYard_c _ _ (by first | omega | assumption | (simp; omega) | (simp; done) | exact trivial | (apply sd1 <;> first | omega | assumption) | (apply sd2 <;> first | omega | assumption) | (apply sd3 <;> first | omega | assumption) | (apply sd4 <;> first | omega | assumption)) (by first | omega | assumption | (simp; omega) | (simp; done) | exact trivial | (apply sd1 <;> first | omega | assumption) | (apply sd2 <;> first | omega | assumption) | (apply sd3 <;> first | omega | assumption) | (apply sd4 <;> first | omega | assumption))) rfl rfl trivial nofun ?_
            rotate_left
            refine doneV.mk [] [] rfl rfl ?_ ?_ ?_
            repeat' first | exact trivial | exact rfl | exact Iff.rfl | assumption | exact pureI | exact (show _ = _ by omega) | exact (show _ ≤ _ by omega) | exact (show _ < _ by omega) | exact (show ¬ _ by omega) | refine And.intro ?_ ?_
          · refine nw (by omega) (by omega) ?_
            refine tN (by first | omega | assumption | exact fun h => h (by assumption) | exact fun h => h rfl | exact fun h => h Iff.rfl) ?_
            refine Z ?_
            refine tN (by first | omega | assumption | exact fun h => h (by assumption) | exact fun h => h rfl | exact fun h => h Iff.rfl) ?_
            refine Z ?_
            refine tY (by first | omega | assumption | exact rfl | exact Iff.rfl) ?_
            refine Z ?_
            refine tY (by first | omega | assumption | exact rfl | exact Iff.rfl) ?_
            rotate_left
            refine doneV.mk [] [] rfl rfl ?_ ?_ ?_
            repeat' first | exact trivial | exact rfl | exact Iff.rfl | assumption | exact pureI | exact (show _ = _ by omega) | exact (show _ ≤ _ by omega) | exact (show _ < _ by omega) | exact (show ¬ _ by omega) | refine And.intro ?_ ?_
end Sx
