/- Contracts: yards that are drawn. -/
import Derived.Test.YtdobohnkjmgefaaCDa
import Derived.Test.YtdobohnkjmgefaaCf
import Derived.Test.YtdobohnkjmgefaaCt
import Derived.Test.YtdobohnkjmgefaaMxT
set_option linter.all false
namespace Sx
open Go Go.Proofs
set_option maxRecDepth 100000
set_option maxHeartbeats 8000000
set_option linter.unusedSimpArgs false
set_option linter.unusedSectionVars false
variable [Glb]
theorem good_fit1 {y : Yd} (hg : good y) : fitY 99 y := by
  have h1 : (y.w.length : Int) ≤ 61 := hg.2.1.1.2
  have h2 := hg.2.2.1.2
  have h3 := hg.2.2.2.1.2
  exact ⟨by omega, by omega, by omega⟩
theorem yard_c (L : List UInt8) (hL : L.length ≤ 1099511627776) (a s : Int) (h0 : 0 ≤ a) (h1 : a ≤ 1099511600000) : CE 142 [.prow 0 0 0] [cur L a s] (fun e : Yd × Int × Int => fitY 100 e.1 ∧ a ≤ e.2.1 ∧ e.2.1 ≤ a + 1000) (fun e => .agg [i64 e.1.n, bv e.1.b, .loc 1, .loc 2, .loc 3, i64 e.1.c]) (fun e => [cur L e.2.1 e.2.2, row e.1.w, rowS e.1.S, rowK e.1.K]) true := by
  refine mkE false false Try.func142 rfl ?_
  refine And.intro nofun ?_
  iterate 13 refine Z ?_
  refine callW.mkE [] [0, 2] 3 _ _ _ _ (among_c _ (by first | omega | assumption | (simp; omega) | (simp; done) | exact trivial) _ _ (by first | omega | assumption | (simp; omega) | (simp; done) | exact trivial) (by first | omega | assumption | (simp; omega) | (simp; done) | exact trivial) _ (by first | omega | assumption | (simp; omega) | (simp; done) | exact trivial) (by first | omega | assumption | (simp; omega) | (simp; done) | exact trivial)) rfl rfl (by repeat' first | exact trivial | assumption | exact knownSS | exact knownApp knownSS knownNil | refine And.intro ?_ ?_) (fun _ => ⟨rfl, rfl⟩) (fun _ _ => ?_)
  refine callW.mkE [] [0] 3 _ _ _ _ (pick_c _ (by first | omega | assumption | (simp; omega) | (simp; done) | exact trivial) _ _ (by first | omega | assumption | (simp; omega) | (simp; done) | exact trivial) (by first | omega | assumption | (simp; omega) | (simp; done) | exact trivial) _) rfl rfl (by repeat' first | exact trivial | assumption | exact knownSS | exact knownApp knownSS knownNil | refine And.intro ?_ ?_) (fun _ => ⟨rfl, rfl⟩) (fun _ _ => ?_)
  refine callW.mk [] 3 _ _ _ (sNewYard_c _ _) rfl rfl trivial nofun ?_
  iterate 5 refine Z ?_
  refine callW.mkE [] [0] 7 _ _ _ _ (pick_c _ (by first | omega | assumption | (simp; omega) | (simp; done) | exact trivial) _ _ (by first | omega | assumption | (simp; omega) | (simp; done) | exact trivial) (by first | omega | assumption | (simp; omega) | (simp; done) | exact trivial) _) rfl rfl (by repeat' first | exact trivial | assumption | exact knownSS | exact knownApp knownSS knownNil | refine And.intro ?_ ?_) (fun _ => ⟨rfl, rfl⟩) (fun _ _ => ?_)
  refine nw (by omega) (by omega) ?_
  rotate_left
  rename_i e1 h2 e2 h3 e3 h4
  refine loop_up (β := Nat × Yd × Int × Int) (fun (k, y, p, q) => [(6, i64 k), (12, .unk), (17, .unk), (18, .unk)]) (fun (k, y, p, q) => [(0, cur L p q), (3, row y.w), (4, rowS y.S), (5, rowK y.K), (6, .row .var 6 [.agg [i64 y.n, bv y.b, .loc 3, .loc 4, .loc 5, i64 y.c]])]) [] (fun (k, y, p, q) => (k : Int) ≤ 8 ∧ (good (newY e1.1 e2.1) → good y) ∧ fitY 99 y ∧ a ≤ p ∧ p + 20 * k ≤ a + 200) (fun (k, y, p, q) => k) (((1 + e3.1).toNat, newW e1.1 e2.1, e3.2.1, e3.2.2)) ?_ ?_ ?_
  · have hn := newW_fit e1.1 e2.1
    refine ⟨by omega, fun h => by rw [newW_yes h]; exact h, ⟨by omega, ?_, ?_⟩, by omega, by omega⟩
    · rw [hn.2.1]; decide
    · rw [hn.2.2]; decide
  · refine weak.mk [] [0, 1, 2, 3, 4, 5, 6] rfl rfl ?_ ?_
    repeat' first | exact trivial | exact rfl | exact Iff.rfl | assumption | exact pureI | exact (show _ = _ by omega) | exact (show _ ≤ _ by omega) | exact (show _ < _ by omega) | exact (show ¬ _ by omega) | refine And.intro ?_ ?_
  · rintro ⟨k, y, p, q⟩ ⟨hk, hg, hf, hp, hp2⟩ R hR
    have hf2 : fitY 1099511627776 y := ⟨by omega, by omega, by omega⟩
    by_cases hgood : good (newY e1.1 e2.1)
    · have hgy := hg hgood
      by_cases hk0 : 0 < k
      · iterate 2 refine tY (by first | omega | assumption | exact rfl | exact Iff.rfl) ?_
        refine drawP.mkS (Z (Z ?_))
        refine Z ?_
        apply exP.mk
        exact rfl
        apply exP.mk
        exact rfl
        apply exP.mk
        exact rfl
        refine BothP.mk ?_ ?_
        refine callW.mkE [] [0, 3, 4, 5] 7 _ _ _ _ ((job12_c y hf2 L hL p q (by omega) (by omega))) rfl rfl (by repeat' first | exact trivial | assumption | exact knownSS | exact knownApp knownSS knownNil | refine And.intro ?_ ?_) (fun _ => ⟨rfl, rfl⟩) (fun _ _ => ?_)
        iterate 2 refine Z ?_
        refine BothP.mk ?_ ?_
        refine callW.mk [] 7 _ _ _ (l12Do_c _ (by first | omega | assumption | (simp; omega) | (simp; done) | exact trivial) (by first | omega | assumption | (simp; omega) | (simp; done) | exact trivial) _ _ _ _) rfl rfl trivial nofun ?_
        refine Z ?_
        apply exP.mk
        exact rfl
        apply exP.mk
        exact rfl
        apply exP.mk
        exact rfl
        iterate 11 refine Z ?_
        apply exP.mk
        exact rfl
        refine twoP.mk (fun _ => ?_) (fun _ => ?_)
        iterate 4 refine Z ?_
        refine nw (by omega) (by omega) ?_
        rotate_left
        refine nw (by omega) (by omega) ?_
        rotate_left
        iterate 3 refine Z ?_
        refine callW.mk [] 8 _ _ _ (l12Do_c _ (by first | omega | assumption | (simp; omega) | (simp; done) | exact trivial) (by first | omega | assumption | (simp; omega) | (simp; done) | exact trivial) _ _ _ _) rfl rfl trivial nofun ?_
        refine Z ?_
        apply exP.mk
        exact rfl
        apply exP.mk
        exact rfl
        apply exP.mk
        exact rfl
        iterate 6 refine Z ?_
        apply exP.mk
        exact rfl
        refine twoP.mk (fun _ => ?_) (fun _ => ?_)
        iterate 4 refine Z ?_
        refine nw (by omega) (by omega) ?_
        rotate_left
        refine nw (by omega) (by omega) ?_
        rotate_left
        iterate 5 refine Z ?_
        refine callW.mkE [] [0, 3, 4, 5] 8 _ _ _ _ ((job12_c y hf2 L hL p q (by omega) (by omega))) rfl rfl (by repeat' first | exact trivial | assumption | exact knownSS | exact knownApp knownSS knownNil | refine And.intro ?_ ?_) (fun _ => ⟨rfl, rfl⟩) (fun _ _ => ?_)
        iterate 2 refine Z ?_
        refine callW.mk [] 8 _ _ _ (l12Do_c _ (by first | omega | assumption | (simp; omega) | (simp; done) | exact trivial) (by first | omega | assumption | (simp; omega) | (simp; done) | exact trivial) _ _ _ _) rfl rfl trivial nofun ?_
        refine Z ?_
        apply exP.mk
        exact rfl
        apply exP.mk
        exact rfl
        apply exP.mk
        exact rfl
        iterate 6 refine Z ?_
        apply exP.mk
        exact rfl
        refine twoP.mk (fun _ => ?_) (fun _ => ?_)
        iterate 4 refine Z ?_
        refine nw (by omega) (by omega) ?_
        rotate_left
        refine nw (by omega) (by omega) ?_
        rotate_left
        · rename_i e4 h5 h6
          have hg2 := doR_good h6
          have hf3 := good_fit1 hg2
          refine hR ((k - 1, doR y ⟨e4.1.k, e4.1.a, e4.1.b, e4.1.c⟩, e4.2.1, e4.2.2)) _ _ ?_ ?_
          rotate_left
          refine weak.mk [] [0, 1, 2, 7, 8, 9, 6] rfl rfl ?_ ?_
          repeat' first | exact trivial | exact rfl | exact Iff.rfl | assumption | exact pureI | exact (show _ = _ by omega) | exact (show _ ≤ _ by omega) | exact (show _ < _ by omega) | exact (show ¬ _ by omega) | refine And.intro ?_ ?_
          rotate_right
          exact ⟨⟨by omega, fun _ => hg2, hf3, by omega, by omega⟩, by show k - 1 < k; omega⟩
        · rename_i e4 h5 h6
          refine hR ((k - 1, y, e4.2.1, e4.2.2)) _ _ ?_ ?_
          rotate_left
          refine weak.mk [] [0, 1, 2, 3, 4, 5, 6] rfl rfl ?_ ?_
          repeat' first | exact trivial | exact rfl | exact Iff.rfl | assumption | exact pureI | exact (show _ = _ by omega) | exact (show _ ≤ _ by omega) | exact (show _ < _ by omega) | exact (show ¬ _ by omega) | refine And.intro ?_ ?_
          rotate_right
          exact ⟨⟨by omega, hg, hf, by omega, by omega⟩, by show k - 1 < k; omega⟩
        · rename_i e4 h5 h6
          have hg2 := doR_good h6
          have hf3 := good_fit1 hg2
          refine hR ((k - 1, doR y ⟨e4.1.k, e4.1.a, e4.1.b, e4.1.c⟩, e4.2.1, e4.2.2)) _ _ ?_ ?_
          rotate_left
          refine weak.mk [] [0, 1, 2, 8, 9, 10, 6] rfl rfl ?_ ?_
          repeat' first | exact trivial | exact rfl | exact Iff.rfl | assumption | exact pureI | exact (show _ = _ by omega) | exact (show _ ≤ _ by omega) | exact (show _ < _ by omega) | exact (show ¬ _ by omega) | refine And.intro ?_ ?_
          rotate_right
          exact ⟨⟨by omega, fun _ => hg2, hf3, by omega, by omega⟩, by show k - 1 < k; omega⟩
        · rename_i e4 h5 h6
          refine hR ((k - 1, y, e4.2.1, e4.2.2)) _ _ ?_ ?_
          rotate_left
          refine weak.mk [] [0, 1, 2, 3, 4, 5, 6] rfl rfl ?_ ?_
          repeat' first | exact trivial | exact rfl | exact Iff.rfl | assumption | exact pureI | exact (show _ = _ by omega) | exact (show _ ≤ _ by omega) | exact (show _ < _ by omega) | exact (show ¬ _ by omega) | refine And.intro ?_ ?_
          rotate_right
          exact ⟨⟨by omega, hg, hf, by omega, by omega⟩, by show k - 1 < k; omega⟩
        · rename_i e4 h5 h6
          have hg2 := doR_good h6
          have hf3 := good_fit1 hg2
          refine hR ((k - 1, doR y ⟨e4.1.k, e4.1.a, e4.1.b, e4.1.c⟩, e4.2.1, e4.2.2)) _ _ ?_ ?_
          rotate_left
          refine weak.mk [] [0, 1, 2, 8, 9, 10, 6] rfl rfl ?_ ?_
          repeat' first | exact trivial | exact rfl | exact Iff.rfl | assumption | exact pureI | exact (show _ = _ by omega) | exact (show _ ≤ _ by omega) | exact (show _ < _ by omega) | exact (show ¬ _ by omega) | refine And.intro ?_ ?_
          rotate_right
          exact ⟨⟨by omega, fun _ => hg2, hf3, by omega, by omega⟩, by show k - 1 < k; omega⟩
        · rename_i e4 h5 h6
          refine hR ((k - 1, y, e4.2.1, e4.2.2)) _ _ ?_ ?_
          rotate_left
          refine weak.mk [] [0, 1, 2, 3, 4, 5, 6] rfl rfl ?_ ?_
          repeat' first | exact trivial | exact rfl | exact Iff.rfl | assumption | exact pureI | exact (show _ = _ by omega) | exact (show _ ≤ _ by omega) | exact (show _ < _ by omega) | exact (show ¬ _ by omega) | refine And.intro ?_ ?_
          rotate_right
          exact ⟨⟨by omega, hg, hf, by omega, by omega⟩, by show k - 1 < k; omega⟩
      · refine tN (by first | omega | assumption | exact fun h => h (by assumption) | exact fun h => h rfl | exact fun h => h Iff.rfl) ?_
        refine callW.mkE [] [0] 7 _ _ _ _ (pick_c _ (by first | omega | assumption | (simp; omega) | (simp; done) | exact trivial) _ _ (by first | omega | assumption | (simp; omega) | (simp; done) | exact trivial) (by first | omega | assumption | (simp; omega) | (simp; done) | exact trivial) _) rfl rfl (by repeat' first | exact trivial | assumption | exact knownSS | exact knownApp knownSS knownNil | refine And.intro ?_ ?_) (fun _ => ⟨rfl, rfl⟩) (fun _ _ => ?_)
        refine twoP.mk (fun _ => ?_) (fun _ => ?_)
        iterate 7 refine Z ?_
        refine callW.mkE [] [0, 7] 8 _ _ _ _ (among_c _ (by first | omega | assumption | (simp; omega) | (simp; done) | exact trivial) _ _ (by first | omega | assumption | (simp; omega) | (simp; done) | exact trivial) (by first | omega | assumption | (simp; omega) | (simp; done) | exact trivial) _ (by first | omega | assumption | (simp; omega) | (simp; done) | exact trivial) (by first | omega | assumption | (simp; omega) | (simp; done) | exact trivial)) rfl rfl (by repeat' first | exact trivial | assumption | exact knownSS | exact knownApp knownSS knownNil | refine And.intro ?_ ?_) (fun _ => ⟨rfl, rfl⟩) (fun _ _ => ?_)
        iterate 9 refine Z ?_
        rotate_left
        refine twoP.mk (fun _ => ?_) (fun _ => ?_)
        iterate 10 refine Z ?_
        rotate_left
        refine twoP.mk (fun _ => ?_) (fun _ => ?_)
        refine Z ?_
        refine callW.mk [] 7 _ _ _ (l1Own_c _ (by first | omega | assumption | (simp; omega) | (simp; done) | exact trivial)) rfl rfl trivial nofun ?_
        iterate 7 refine Z ?_
        refine callW.mkE [] [0, 8] 9 _ _ _ _ (among_c _ (by first | omega | assumption | (simp; omega) | (simp; done) | exact trivial) _ _ (by first | omega | assumption | (simp; omega) | (simp; done) | exact trivial) (by first | omega | assumption | (simp; omega) | (simp; done) | exact trivial) _ (by first | omega | assumption | (simp; omega) | (simp; done) | exact trivial) (by first | omega | assumption | (simp; omega) | (simp; done) | exact trivial)) rfl rfl (by repeat' first | exact trivial | assumption | exact knownSS | exact knownApp knownSS knownNil | refine And.intro ?_ ?_) (fun _ => ⟨rfl, rfl⟩) (fun _ _ => ?_)
        iterate 10 refine Z ?_
        refine lem1 (by omega) ?_
        refine ea ?_
        iterate 9 refine Z ?_
        rotate_left
        refine twoP.mk (fun _ => ?_) (fun _ => ?_)
        iterate 7 refine Z ?_
        refine callW.mkE [] [0, 7] 8 _ _ _ _ (among_c _ (by first | omega | assumption | (simp; omega) | (simp; done) | exact trivial) _ _ (by first | omega | assumption | (simp; omega) | (simp; done) | exact trivial) (by first | omega | assumption | (simp; omega) | (simp; done) | exact trivial) _ (by first | omega | assumption | (simp; omega) | (simp; done) | exact trivial) (by first | omega | assumption | (simp; omega) | (simp; done) | exact trivial)) rfl rfl (by repeat' first | exact trivial | assumption | exact knownSS | exact knownApp knownSS knownNil | refine And.intro ?_ ?_) (fun _ => ⟨rfl, rfl⟩) (fun _ _ => ?_)
        iterate 10 refine Z ?_
        rotate_left
        iterate 4 refine Z ?_
        rotate_left
        · rename_i e4 h5 h6 e5 h7
          refine doneE.mk ((⟨y.n, y.b, y.w, y.S, y.K, e5.1⟩, e5.2.1, e5.2.2)) ?_ ?_
          rotate_left
          focus
            refine doneV.mk [] [0, 3, 4, 5] rfl rfl ?_ ?_ ?_
            repeat' first | exact trivial | exact rfl | exact Iff.rfl | assumption | exact pureI | exact (show _ = _ by omega) | exact (show _ ≤ _ by omega) | exact (show _ < _ by omega) | exact (show ¬ _ by omega) | refine And.intro ?_ ?_
          rotate_right
          refine ⟨⟨?_, ?_, ?_⟩, ?_, ?_⟩ <;> dsimp only <;> omega
        · rename_i e4 h5 h6 h7
          refine doneE.mk ((⟨y.n, true, y.w, y.S, y.K, y.c⟩, e4.2.1, e4.2.2)) ?_ ?_
          rotate_left
          focus
            refine doneV.mk [] [0, 3, 4, 5] rfl rfl ?_ ?_ ?_
            repeat' first | exact trivial | exact rfl | exact Iff.rfl | assumption | exact pureI | exact (show _ = _ by omega) | exact (show _ ≤ _ by omega) | exact (show _ < _ by omega) | exact (show ¬ _ by omega) | refine And.intro ?_ ?_
          rotate_right
          refine ⟨⟨?_, ?_, ?_⟩, ?_, ?_⟩ <;> dsimp only <;> omega
        · rename_i e4 h5 h6 h7 h8 e5 h9
          refine doneE.mk ((⟨y.n, y.b, y.w ++ [e5.1], y.S, y.K, y.c⟩, e5.2.1, e5.2.2)) ?_ ?_
          rotate_left
          focus
            refine doneV.mk [] [0, 10, 4, 5] rfl rfl ?_ ?_ ?_
            repeat' first | exact trivial | exact rfl | exact Iff.rfl | assumption | exact pureI | exact (show _ = _ by omega) | exact (show _ ≤ _ by omega) | exact (show _ < _ by omega) | exact (show ¬ _ by omega) | refine And.intro ?_ ?_
          rotate_right
          have e : (y.w ++ [e5.1]).length = y.w.length + 1 := by simp
          refine ⟨⟨?_, ?_, ?_⟩, ?_, ?_⟩ <;> dsimp only <;> omega
        · rename_i e4 h5 h6 h7 h8 h9 e5 h10
          refine doneE.mk ((⟨e5.1, y.b, y.w, y.S, y.K, y.c⟩, e5.2.1, e5.2.2)) ?_ ?_
          rotate_left
          focus
            refine doneV.mk [] [0, 3, 4, 5] rfl rfl ?_ ?_ ?_
            repeat' first | exact trivial | exact rfl | exact Iff.rfl | assumption | exact pureI | exact (show _ = _ by omega) | exact (show _ ≤ _ by omega) | exact (show _ < _ by omega) | exact (show ¬ _ by omega) | refine And.intro ?_ ?_
          rotate_right
          refine ⟨⟨?_, ?_, ?_⟩, ?_, ?_⟩ <;> dsimp only <;> omega
        · rename_i e4 h5 h6 h7 h8 h9
          refine doneE.mk ((y, e4.2.1, e4.2.2)) ?_ ?_
          rotate_left
          focus
            refine doneV.mk [] [0, 3, 4, 5] rfl rfl ?_ ?_ ?_
            repeat' first | exact trivial | exact rfl | exact Iff.rfl | assumption | exact pureI | exact (show _ = _ by omega) | exact (show _ ≤ _ by omega) | exact (show _ < _ by omega) | exact (show ¬ _ by omega) | refine And.intro ?_ ?_
          rotate_right
          refine ⟨⟨?_, ?_, ?_⟩, ?_, ?_⟩ <;> dsimp only <;> omega
    · by_cases hk0 : 0 < k
      · refine tY (by first | omega | assumption | exact rfl | exact Iff.rfl) ?_
        refine tN (by first | omega | assumption | exact fun h => h (by assumption) | exact fun h => h rfl | exact fun h => h Iff.rfl) ?_
        refine callW.mkE [] [0] 7 _ _ _ _ (pick_c _ (by first | omega | assumption | (simp; omega) | (simp; done) | exact trivial) _ _ (by first | omega | assumption | (simp; omega) | (simp; done) | exact trivial) (by first | omega | assumption | (simp; omega) | (simp; done) | exact trivial) _) rfl rfl (by repeat' first | exact trivial | assumption | exact knownSS | exact knownApp knownSS knownNil | refine And.intro ?_ ?_) (fun _ => ⟨rfl, rfl⟩) (fun _ _ => ?_)
        refine twoP.mk (fun _ => ?_) (fun _ => ?_)
        iterate 7 refine Z ?_
        refine callW.mkE [] [0, 7] 8 _ _ _ _ (among_c _ (by first | omega | assumption | (simp; omega) | (simp; done) | exact trivial) _ _ (by first | omega | assumption | (simp; omega) | (simp; done) | exact trivial) (by first | omega | assumption | (simp; omega) | (simp; done) | exact trivial) _ (by first | omega | assumption | (simp; omega) | (simp; done) | exact trivial) (by first | omega | assumption | (simp; omega) | (simp; done) | exact trivial)) rfl rfl (by repeat' first | exact trivial | assumption | exact knownSS | exact knownApp knownSS knownNil | refine And.intro ?_ ?_) (fun _ => ⟨rfl, rfl⟩) (fun _ _ => ?_)
        iterate 9 refine Z ?_
        rotate_left
        refine twoP.mk (fun _ => ?_) (fun _ => ?_)
        iterate 10 refine Z ?_
        rotate_left
        refine twoP.mk (fun _ => ?_) (fun _ => ?_)
        refine Z ?_
        refine callW.mk [] 7 _ _ _ (l1Own_c _ (by first | omega | assumption | (simp; omega) | (simp; done) | exact trivial)) rfl rfl trivial nofun ?_
        iterate 7 refine Z ?_
        refine callW.mkE [] [0, 8] 9 _ _ _ _ (among_c _ (by first | omega | assumption | (simp; omega) | (simp; done) | exact trivial) _ _ (by first | omega | assumption | (simp; omega) | (simp; done) | exact trivial) (by first | omega | assumption | (simp; omega) | (simp; done) | exact trivial) _ (by first | omega | assumption | (simp; omega) | (simp; done) | exact trivial) (by first | omega | assumption | (simp; omega) | (simp; done) | exact trivial)) rfl rfl (by repeat' first | exact trivial | assumption | exact knownSS | exact knownApp knownSS knownNil | refine And.intro ?_ ?_) (fun _ => ⟨rfl, rfl⟩) (fun _ _ => ?_)
        iterate 10 refine Z ?_
        refine lem1 (by omega) ?_
        refine ea ?_
        iterate 9 refine Z ?_
        rotate_left
        refine twoP.mk (fun _ => ?_) (fun _ => ?_)
        iterate 7 refine Z ?_
        refine callW.mkE [] [0, 7] 8 _ _ _ _ (among_c _ (by first | omega | assumption | (simp; omega) | (simp; done) | exact trivial) _ _ (by first | omega | assumption | (simp; omega) | (simp; done) | exact trivial) (by first | omega | assumption | (simp; omega) | (simp; done) | exact trivial) _ (by first | omega | assumption | (simp; omega) | (simp; done) | exact trivial) (by first | omega | assumption | (simp; omega) | (simp; done) | exact trivial)) rfl rfl (by repeat' first | exact trivial | assumption | exact knownSS | exact knownApp knownSS knownNil | refine And.intro ?_ ?_) (fun _ => ⟨rfl, rfl⟩) (fun _ _ => ?_)
        iterate 10 refine Z ?_
        rotate_left
        iterate 4 refine Z ?_
        rotate_left
        · rename_i e4 h5 h6 e5 h7
          refine doneE.mk ((⟨y.n, y.b, y.w, y.S, y.K, e5.1⟩, e5.2.1, e5.2.2)) ?_ ?_
          rotate_left
          focus
            refine doneV.mk [] [0, 3, 4, 5] rfl rfl ?_ ?_ ?_
            repeat' first | exact trivial | exact rfl | exact Iff.rfl | assumption | exact pureI | exact (show _ = _ by omega) | exact (show _ ≤ _ by omega) | exact (show _ < _ by omega) | exact (show ¬ _ by omega) | refine And.intro ?_ ?_
          rotate_right
          refine ⟨⟨?_, ?_, ?_⟩, ?_, ?_⟩ <;> dsimp only <;> omega
        · rename_i e4 h5 h6 h7
          refine doneE.mk ((⟨y.n, true, y.w, y.S, y.K, y.c⟩, e4.2.1, e4.2.2)) ?_ ?_
          rotate_left
          focus
            refine doneV.mk [] [0, 3, 4, 5] rfl rfl ?_ ?_ ?_
            repeat' first | exact trivial | exact rfl | exact Iff.rfl | assumption | exact pureI | exact (show _ = _ by omega) | exact (show _ ≤ _ by omega) | exact (show _ < _ by omega) | exact (show ¬ _ by omega) | refine And.intro ?_ ?_
          rotate_right
          refine ⟨⟨?_, ?_, ?_⟩, ?_, ?_⟩ <;> dsimp only <;> omega
        · rename_i e4 h5 h6 h7 h8 e5 h9
          refine doneE.mk ((⟨y.n, y.b, y.w ++ [e5.1], y.S, y.K, y.c⟩, e5.2.1, e5.2.2)) ?_ ?_
          rotate_left
          focus
            refine doneV.mk [] [0, 10, 4, 5] rfl rfl ?_ ?_ ?_
            repeat' first | exact trivial | exact rfl | exact Iff.rfl | assumption | exact pureI | exact (show _ = _ by omega) | exact (show _ ≤ _ by omega) | exact (show _ < _ by omega) | exact (show ¬ _ by omega) | refine And.intro ?_ ?_
          rotate_right
          have e : (y.w ++ [e5.1]).length = y.w.length + 1 := by simp
          refine ⟨⟨?_, ?_, ?_⟩, ?_, ?_⟩ <;> dsimp only <;> omega
        · rename_i e4 h5 h6 h7 h8 h9 e5 h10
          refine doneE.mk ((⟨e5.1, y.b, y.w, y.S, y.K, y.c⟩, e5.2.1, e5.2.2)) ?_ ?_
          rotate_left
          focus
            refine doneV.mk [] [0, 3, 4, 5] rfl rfl ?_ ?_ ?_
            repeat' first | exact trivial | exact rfl | exact Iff.rfl | assumption | exact pureI | exact (show _ = _ by omega) | exact (show _ ≤ _ by omega) | exact (show _ < _ by omega) | exact (show ¬ _ by omega) | refine And.intro ?_ ?_
          rotate_right
          refine ⟨⟨?_, ?_, ?_⟩, ?_, ?_⟩ <;> dsimp only <;> omega
        · rename_i e4 h5 h6 h7 h8 h9
          refine doneE.mk ((y, e4.2.1, e4.2.2)) ?_ ?_
          rotate_left
          focus
            refine doneV.mk [] [0, 3, 4, 5] rfl rfl ?_ ?_ ?_
            repeat' first | exact trivial | exact rfl | exact Iff.rfl | assumption | exact pureI | exact (show _ = _ by omega) | exact (show _ ≤ _ by omega) | exact (show _ < _ by omega) | exact (show ¬ _ by omega) | refine And.intro ?_ ?_
          rotate_right
          refine ⟨⟨?_, ?_, ?_⟩, ?_, ?_⟩ <;> dsimp only <;> omega
      · refine tN (by first | omega | assumption | exact fun h => h (by assumption) | exact fun h => h rfl | exact fun h => h Iff.rfl) ?_
        refine callW.mkE [] [0] 7 _ _ _ _ (pick_c _ (by first | omega | assumption | (simp; omega) | (simp; done) | exact trivial) _ _ (by first | omega | assumption | (simp; omega) | (simp; done) | exact trivial) (by first | omega | assumption | (simp; omega) | (simp; done) | exact trivial) _) rfl rfl (by repeat' first | exact trivial | assumption | exact knownSS | exact knownApp knownSS knownNil | refine And.intro ?_ ?_) (fun _ => ⟨rfl, rfl⟩) (fun _ _ => ?_)
        refine twoP.mk (fun _ => ?_) (fun _ => ?_)
        iterate 7 refine Z ?_
        refine callW.mkE [] [0, 7] 8 _ _ _ _ (among_c _ (by first | omega | assumption | (simp; omega) | (simp; done) | exact trivial) _ _ (by first | omega | assumption | (simp; omega) | (simp; done) | exact trivial) (by first | omega | assumption | (simp; omega) | (simp; done) | exact trivial) _ (by first | omega | assumption | (simp; omega) | (simp; done) | exact trivial) (by first | omega | assumption | (simp; omega) | (simp; done) | exact trivial)) rfl rfl (by repeat' first | exact trivial | assumption | exact knownSS | exact knownApp knownSS knownNil | refine And.intro ?_ ?_) (fun _ => ⟨rfl, rfl⟩) (fun _ _ => ?_)
        iterate 9 refine Z ?_
        rotate_left
        refine twoP.mk (fun _ => ?_) (fun _ => ?_)
        iterate 10 refine Z ?_
        rotate_left
        refine twoP.mk (fun _ => ?_) (fun _ => ?_)
        refine Z ?_
        refine callW.mk [] 7 _ _ _ (l1Own_c _ (by first | omega | assumption | (simp; omega) | (simp; done) | exact trivial)) rfl rfl trivial nofun ?_
        iterate 7 refine Z ?_
        refine callW.mkE [] [0, 8] 9 _ _ _ _ (among_c _ (by first | omega | assumption | (simp; omega) | (simp; done) | exact trivial) _ _ (by first | omega | assumption | (simp; omega) | (simp; done) | exact trivial) (by first | omega | assumption | (simp; omega) | (simp; done) | exact trivial) _ (by first | omega | assumption | (simp; omega) | (simp; done) | exact trivial) (by first | omega | assumption | (simp; omega) | (simp; done) | exact trivial)) rfl rfl (by repeat' first | exact trivial | assumption | exact knownSS | exact knownApp knownSS knownNil | refine And.intro ?_ ?_) (fun _ => ⟨rfl, rfl⟩) (fun _ _ => ?_)
        iterate 10 refine Z ?_
        refine lem1 (by omega) ?_
        refine ea ?_
        iterate 9 refine Z ?_
        rotate_left
        refine twoP.mk (fun _ => ?_) (fun _ => ?_)
        iterate 7 refine Z ?_
        refine callW.mkE [] [0, 7] 8 _ _ _ _ (among_c _ (by first | omega | assumption | (simp; omega) | (simp; done) | exact trivial) _ _ (by first | omega | assumption | (simp; omega) | (simp; done) | exact trivial) (by first | omega | assumption | (simp; omega) | (simp; done) | exact trivial) _ (by first | omega | assumption | (simp; omega) | (simp; done) | exact trivial) (by first | omega | assumption | (simp; omega) | (simp; done) | exact trivial)) rfl rfl (by repeat' first | exact trivial | assumption | exact knownSS | exact knownApp knownSS knownNil | refine And.intro ?_ ?_) (fun _ => ⟨rfl, rfl⟩) (fun _ _ => ?_)
        iterate 10 refine Z ?_
        rotate_left
        iterate 4 refine Z ?_
        rotate_left
        · rename_i e4 h5 h6 e5 h7
          refine doneE.mk ((⟨y.n, y.b, y.w, y.S, y.K, e5.1⟩, e5.2.1, e5.2.2)) ?_ ?_
          rotate_left
          focus
            refine doneV.mk [] [0, 3, 4, 5] rfl rfl ?_ ?_ ?_
            repeat' first | exact trivial | exact rfl | exact Iff.rfl | assumption | exact pureI | exact (show _ = _ by omega) | exact (show _ ≤ _ by omega) | exact (show _ < _ by omega) | exact (show ¬ _ by omega) | refine And.intro ?_ ?_
          rotate_right
          refine ⟨⟨?_, ?_, ?_⟩, ?_, ?_⟩ <;> dsimp only <;> omega
        · rename_i e4 h5 h6 h7
          refine doneE.mk ((⟨y.n, true, y.w, y.S, y.K, y.c⟩, e4.2.1, e4.2.2)) ?_ ?_
          rotate_left
          focus
            refine doneV.mk [] [0, 3, 4, 5] rfl rfl ?_ ?_ ?_
            repeat' first | exact trivial | exact rfl | exact Iff.rfl | assumption | exact pureI | exact (show _ = _ by omega) | exact (show _ ≤ _ by omega) | exact (show _ < _ by omega) | exact (show ¬ _ by omega) | refine And.intro ?_ ?_
          rotate_right
          refine ⟨⟨?_, ?_, ?_⟩, ?_, ?_⟩ <;> dsimp only <;> omega
        · rename_i e4 h5 h6 h7 h8 e5 h9
          refine doneE.mk ((⟨y.n, y.b, y.w ++ [e5.1], y.S, y.K, y.c⟩, e5.2.1, e5.2.2)) ?_ ?_
          rotate_left
          focus
            refine doneV.mk [] [0, 10, 4, 5] rfl rfl ?_ ?_ ?_
            repeat' first | exact trivial | exact rfl | exact Iff.rfl | assumption | exact pureI | exact (show _ = _ by omega) | exact (show _ ≤ _ by omega) | exact (show _ < _ by omega) | exact (show ¬ _ by omega) | refine And.intro ?_ ?_
          rotate_right
          have e : (y.w ++ [e5.1]).length = y.w.length + 1 := by simp
          refine ⟨⟨?_, ?_, ?_⟩, ?_, ?_⟩ <;> dsimp only <;> omega
        · rename_i e4 h5 h6 h7 h8 h9 e5 h10
          refine doneE.mk ((⟨e5.1, y.b, y.w, y.S, y.K, y.c⟩, e5.2.1, e5.2.2)) ?_ ?_
          rotate_left
          focus
            refine doneV.mk [] [0, 3, 4, 5] rfl rfl ?_ ?_ ?_
            repeat' first | exact trivial | exact rfl | exact Iff.rfl | assumption | exact pureI | exact (show _ = _ by omega) | exact (show _ ≤ _ by omega) | exact (show _ < _ by omega) | exact (show ¬ _ by omega) | refine And.intro ?_ ?_
          rotate_right
          refine ⟨⟨?_, ?_, ?_⟩, ?_, ?_⟩ <;> dsimp only <;> omega
        · rename_i e4 h5 h6 h7 h8 h9
          refine doneE.mk ((y, e4.2.1, e4.2.2)) ?_ ?_
          rotate_left
          focus
            refine doneV.mk [] [0, 3, 4, 5] rfl rfl ?_ ?_ ?_
            repeat' first | exact trivial | exact rfl | exact Iff.rfl | assumption | exact pureI | exact (show _ = _ by omega) | exact (show _ ≤ _ by omega) | exact (show _ < _ by omega) | exact (show ¬ _ by omega) | refine And.intro ?_ ?_
          rotate_right
          refine ⟨⟨?_, ?_, ?_⟩, ?_, ?_⟩ <;> dsimp only <;> omega
end Sx
