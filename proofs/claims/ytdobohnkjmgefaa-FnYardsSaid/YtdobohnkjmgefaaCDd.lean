/- Contracts: the jobs that the law of yards draws. -/
import Derived.Test.YtdobohnkjmgefaaCDc
set_option linter.all false
namespace Sx
open Go Go.Proofs
set_option maxRecDepth 100000
set_option maxHeartbeats 8000000
set_option linter.unusedSimpArgs false
set_option linter.unusedSectionVars false
variable [Glb]
theorem DrawWorkAll_c (L : List UInt8) (hL : L.length ≤ 1099511627776) : CE 55 [.sl 1 (L.map i8)] [] (fun e : Yd × List Jb => fitY 100 e.1 ∧ e.2.length ≤ 5) (fun e => .tuple [.agg [i64 e.1.n, bv e.1.b, .loc 0, .loc 1, .loc 2, i64 e.1.c], .loc 3]) (fun e => [row e.1.w, rowS e.1.S, rowK e.1.K, rowJ e.2]) false := by
  refine mkE false false Try.func55 rfl ?_
  refine And.intro nofun ?_
  iterate 6 refine Z ?_
  refine callW.mkE [] [1] 2 _ _ _ _ (yard_c _ (by first | omega | assumption | (simp; omega) | (simp; done) | exact trivial) _ _ (by first | omega | assumption | (simp; omega) | (simp; done) | exact trivial) (by first | omega | assumption | (simp; omega) | (simp; done) | exact trivial)) rfl rfl (by repeat' first | exact trivial | assumption | exact knownSS | exact knownApp knownSS knownNil | refine And.intro ?_ ?_) (fun _ => ⟨rfl, rfl⟩) (fun _ _ => ?_)
  iterate 12 refine Z ?_
  refine callW.mkE [] [1] 7 _ _ _ _ (pick_c _ (by first | omega | assumption | (simp; omega) | (simp; done) | exact trivial) _ _ (by first | omega | assumption | (simp; omega) | (simp; done) | exact trivial) (by first | omega | assumption | (simp; omega) | (simp; done) | exact trivial) _) rfl rfl (by repeat' first | exact trivial | assumption | exact knownSS | exact knownApp knownSS knownNil | refine And.intro ?_ ?_) (fun _ => ⟨rfl, rfl⟩) (fun _ _ => ?_)
  rotate_left
  rename_i e1 h1 e2 h2
  refine loop_up (β := Nat × Bool × Yd × Int × Int × List Jb) (fun (k, f, x, p, q, js) => [(6, .loc 7), (8, i64 k)]) (fun (k, f, x, p, q, js) => [(1, cur L p q), (6, .row .var 6 [.agg [i64 x.n, bv x.b, .loc (cond f 2 8), .loc (cond f 3 9), .loc (cond f 4 10), i64 x.c]]), (7, rowJ js), (8, row (cond f [] x.w)), (9, rowS (cond f [] x.S)), (10, rowK (cond f [] x.K))]) [4, 1, 2, 3] (fun (k, f, x, p, q, js) => k + js.length ≤ 5 ∧ (f = true → x = e1.1) ∧ fitY 100 x ∧ 0 ≤ p ∧ p + 40 * (k : Int) ≤ 2000) (fun (k, f, x, p, q, js) => k) ((e2.1.toNat, true, e1.1, e2.2.1, e2.2.2, [])) ?_ ?_ ?_
  · refine ⟨?_, fun _ => rfl, h1.1, by omega, by omega⟩
    show e2.1.toNat + 0 ≤ 5
    omega
  · refine weak.mk [4, 1, 2, 3] [0, 1, 2, 3, 4, 5, 6, 7, 8, 9, 10] rfl rfl ?_ ?_
    repeat' first | exact trivial | exact rfl | exact Iff.rfl | assumption | refine And.intro ?_ ?_
    show e2.1 = (e2.1.toNat : Int)
    omega
  · rintro ⟨k, f, x, p, q, js⟩ ⟨hk, hf, hx, hp, hp2⟩ R hR
    have hx2 : fitY 1099511627776 x := ⟨by omega, by omega, by omega⟩
    by_cases hg : good x
    · by_cases hk0 : 0 < k
      · cases f
        · refine tY (by first | omega | assumption | exact rfl | exact Iff.rfl) ?_
          refine callW.mk [] 11 _ _ _ (l12Good_c _ (by first | omega | assumption | (simp; omega) | (simp; done) | exact trivial)) rfl rfl trivial nofun ?_
          refine tY (by first | omega | assumption | exact rfl | exact Iff.rfl) ?_
          refine callW.mkE [] [1, 8, 9, 10] 11 _ _ _ _ ((job12_c x hx2 L hL p q (by omega) (by omega))) rfl rfl (by repeat' first | exact trivial | assumption | exact knownSS | exact knownApp knownSS knownNil | refine And.intro ?_ ?_) (fun _ => ⟨rfl, rfl⟩) (fun _ _ => ?_)
          iterate 15 refine Z ?_
          refine lem1 (by omega) ?_
          refine ea ?_
          refine callW.mk [] 14 _ _ _ (l12Do_c _ (by first | omega | assumption | (simp; omega) | (simp; done) | exact trivial) (by first | omega | assumption | (simp; omega) | (simp; done) | exact trivial) _ _ _ _) rfl rfl trivial nofun ?_
          iterate 5 refine Z ?_
          refine twoP.mk (fun _ => ?_) (fun _ => ?_)
          iterate 4 refine Z ?_
          refine nw (by omega) (by omega) ?_
          rotate_left
          refine nw (by omega) (by omega) ?_
          rotate_left
          · rename_i e4 h4 h5
            have hf3 := good_fit1 (doR_good h5)
            refine hR ((k - 1, false, doR x ⟨e4.1.k, e4.1.a, e4.1.b, e4.1.c⟩, e4.2.1, e4.2.2, js ++ [e4.1])) _ _ ?_ ?_
            rotate_left
            refine weak.mk [] [0, 1, 2, 3, 4, 5, 6, 13, 14, 15, 16] rfl rfl ?_ ?_
            repeat' first | exact trivial | exact rfl | exact Iff.rfl | assumption | exact pureI | exact (show _ = _ by omega) | exact (show _ ≤ _ by omega) | exact (show _ < _ by omega) | exact (show ¬ _ by omega) | refine And.intro ?_ ?_
            rotate_right
            · refine ⟨⟨by simp only [List.length_append, List.length_singleton]; omega, nofun, ⟨by omega, by omega, by omega⟩, by omega, by omega⟩, by show k - 1 < k; omega⟩
          · rename_i e4 h4 h5
            refine hR ((k - 1, false, x, e4.2.1, e4.2.2, js ++ [e4.1])) _ _ ?_ ?_
            rotate_left
            refine weak.mk [] [0, 1, 2, 3, 4, 5, 6, 13, 8, 9, 10] rfl rfl ?_ ?_
            repeat' first | exact trivial | exact rfl | exact Iff.rfl | assumption | exact pureI | exact (show _ = _ by omega) | exact (show _ ≤ _ by omega) | exact (show _ < _ by omega) | exact (show ¬ _ by omega) | refine And.intro ?_ ?_
            rotate_right
            · refine ⟨⟨by simp only [List.length_append, List.length_singleton]; omega, nofun, ⟨by omega, by omega, by omega⟩, by omega, by omega⟩, by show k - 1 < k; omega⟩
        · have := hf rfl
          subst this
          refine tY (by first | omega | assumption | exact rfl | exact Iff.rfl) ?_
          refine callW.mk [] 11 _ _ _ (l12Good_c _ (by first | omega | assumption | (simp; omega) | (simp; done) | exact trivial)) rfl rfl trivial nofun ?_
          refine tY (by first | omega | assumption | exact rfl | exact Iff.rfl) ?_
          refine callW.mkE [] [1, 2, 3, 4] 11 _ _ _ _ ((job12_c e1.1 hx2 L hL p q (by omega) (by omega))) rfl rfl (by repeat' first | exact trivial | assumption | exact knownSS | exact knownApp knownSS knownNil | refine And.intro ?_ ?_) (fun _ => ⟨rfl, rfl⟩) (fun _ _ => ?_)
          iterate 15 refine Z ?_
          refine lem1 (by omega) ?_
          refine ea ?_
          refine callW.mk [] 14 _ _ _ (l12Do_c _ (by first | omega | assumption | (simp; omega) | (simp; done) | exact trivial) (by first | omega | assumption | (simp; omega) | (simp; done) | exact trivial) _ _ _ _) rfl rfl trivial nofun ?_
          iterate 5 refine Z ?_
          refine twoP.mk (fun _ => ?_) (fun _ => ?_)
          iterate 4 refine Z ?_
          refine nw (by omega) (by omega) ?_
          rotate_left
          refine nw (by omega) (by omega) ?_
          rotate_left
          · rename_i e4 h4 h5
            have hf3 := good_fit1 (doR_good h5)
            refine hR ((k - 1, false, doR e1.1 ⟨e4.1.k, e4.1.a, e4.1.b, e4.1.c⟩, e4.2.1, e4.2.2, js ++ [e4.1])) _ _ ?_ ?_
            rotate_left
            refine weak.mk [] [0, 1, 2, 3, 4, 5, 6, 13, 14, 15, 16] rfl rfl ?_ ?_
            repeat' first | exact trivial | exact rfl | exact Iff.rfl | assumption | exact pureI | exact (show _ = _ by omega) | exact (show _ ≤ _ by omega) | exact (show _ < _ by omega) | exact (show ¬ _ by omega) | refine And.intro ?_ ?_
            rotate_right
            · refine ⟨⟨by simp only [List.length_append, List.length_singleton]; omega, nofun, ⟨by omega, by omega, by omega⟩, by omega, by omega⟩, by show k - 1 < k; omega⟩
          · rename_i e4 h4 h5
            refine hR ((k - 1, true, e1.1, e4.2.1, e4.2.2, js ++ [e4.1])) _ _ ?_ (weak.mk [] [0, 1, 2, 3, 4, 5, 6, 13, 8, 9, 10] rfl rfl ?_ ?_)
            repeat' first | exact trivial | exact rfl | exact Iff.rfl | assumption | refine And.intro ?_ ?_
            · refine ⟨⟨by simp only [List.length_append, List.length_singleton]; omega, fun _ => rfl, ⟨by omega, by omega, by omega⟩, by omega, by omega⟩, by show k - 1 < k; omega⟩
            all_goals (show (k : Int) - 1 = ((k - 1 : Nat) : Int); omega)
      · cases f
        · refine tN (by first | omega | assumption | exact fun h => h (by assumption) | exact fun h => h rfl | exact fun h => h Iff.rfl) ?_
          iterate 4 refine Z ?_
          rotate_left
          refine doneE.mk ((e1.1, js)) ?_ ?_
          rotate_left
          focus
            refine doneV.mk [] [2, 3, 4, 7] rfl rfl ?_ ?_ ?_
            repeat' first | exact trivial | exact rfl | exact Iff.rfl | assumption | exact pureI | exact (show _ = _ by omega) | exact (show _ ≤ _ by omega) | exact (show _ < _ by omega) | exact (show ¬ _ by omega) | refine And.intro ?_ ?_
          rotate_right
          · exact ⟨h1.1, by show js.length ≤ 5; omega⟩
          all_goals exact pureM fun _ => rfl
        · have := hf rfl
          subst this
          refine tN (by first | omega | assumption | exact fun h => h (by assumption) | exact fun h => h rfl | exact fun h => h Iff.rfl) ?_
          iterate 4 refine Z ?_
          rotate_left
          refine doneE.mk ((e1.1, js)) ?_ ?_
          rotate_left
          focus
            refine doneV.mk [] [2, 3, 4, 7] rfl rfl ?_ ?_ ?_
            repeat' first | exact trivial | exact rfl | exact Iff.rfl | assumption | exact pureI | exact (show _ = _ by omega) | exact (show _ ≤ _ by omega) | exact (show _ < _ by omega) | exact (show ¬ _ by omega) | refine And.intro ?_ ?_
          rotate_right
          · exact ⟨h1.1, by show js.length ≤ 5; omega⟩
          all_goals exact pureM fun _ => rfl
    · cases f
      · by_cases hk0 : 0 < k
        · refine tY (by first | omega | assumption | exact rfl | exact Iff.rfl) ?_
          refine callW.mk [] 11 _ _ _ (l12Good_c _ (by first | omega | assumption | (simp; omega) | (simp; done) | exact trivial)) rfl rfl trivial nofun ?_
          refine tN (by first | omega | assumption | exact fun h => h (by assumption) | exact fun h => h rfl | exact fun h => h Iff.rfl) ?_
          iterate 4 refine Z ?_
          rotate_left
          refine doneE.mk ((e1.1, js)) ?_ ?_
          rotate_left
          focus
            refine doneV.mk [] [2, 3, 4, 7] rfl rfl ?_ ?_ ?_
            repeat' first | exact trivial | exact rfl | exact Iff.rfl | assumption | exact pureI | exact (show _ = _ by omega) | exact (show _ ≤ _ by omega) | exact (show _ < _ by omega) | exact (show ¬ _ by omega) | refine And.intro ?_ ?_
          rotate_right
          · exact ⟨h1.1, by show js.length ≤ 5; omega⟩
          all_goals exact pureM fun _ => rfl
        · refine tN (by first | omega | assumption | exact fun h => h (by assumption) | exact fun h => h rfl | exact fun h => h Iff.rfl) ?_
          iterate 4 refine Z ?_
          rotate_left
          refine doneE.mk ((e1.1, js)) ?_ ?_
          rotate_left
          focus
            refine doneV.mk [] [2, 3, 4, 7] rfl rfl ?_ ?_ ?_
            repeat' first | exact trivial | exact rfl | exact Iff.rfl | assumption | exact pureI | exact (show _ = _ by omega) | exact (show _ ≤ _ by omega) | exact (show _ < _ by omega) | exact (show ¬ _ by omega) | refine And.intro ?_ ?_
          rotate_right
          · exact ⟨h1.1, by show js.length ≤ 5; omega⟩
          all_goals exact pureM fun _ => rfl
      · have := hf rfl
        subst this
        by_cases hk0 : 0 < k
        · refine tY (by first | omega | assumption | exact rfl | exact Iff.rfl) ?_
          refine callW.mk [] 11 _ _ _ (l12Good_c _ (by first | omega | assumption | (simp; omega) | (simp; done) | exact trivial)) rfl rfl trivial nofun ?_
          refine tN (by first | omega | assumption | exact fun h => h (by assumption) | exact fun h => h rfl | exact fun h => h Iff.rfl) ?_
          iterate 4 refine Z ?_
          rotate_left
          refine doneE.mk ((e1.1, js)) ?_ ?_
          rotate_left
          focus
            refine doneV.mk [] [2, 3, 4, 7] rfl rfl ?_ ?_ ?_
            repeat' first | exact trivial | exact rfl | exact Iff.rfl | assumption | exact pureI | exact (show _ = _ by omega) | exact (show _ ≤ _ by omega) | exact (show _ < _ by omega) | exact (show ¬ _ by omega) | refine And.intro ?_ ?_
          rotate_right
          · exact ⟨h1.1, by show js.length ≤ 5; omega⟩
          all_goals exact pureM fun _ => rfl
        · refine tN (by first | omega | assumption | exact fun h => h (by assumption) | exact fun h => h rfl | exact fun h => h Iff.rfl) ?_
          iterate 4 refine Z ?_
          rotate_left
          refine doneE.mk ((e1.1, js)) ?_ ?_
          rotate_left
          focus
            refine doneV.mk [] [2, 3, 4, 7] rfl rfl ?_ ?_ ?_
            repeat' first | exact trivial | exact rfl | exact Iff.rfl | assumption | exact pureI | exact (show _ = _ by omega) | exact (show _ ≤ _ by omega) | exact (show _ < _ by omega) | exact (show ¬ _ by omega) | refine And.intro ?_ ?_
          rotate_right
          · exact ⟨h1.1, by show js.length ≤ 5; omega⟩
          all_goals exact pureM fun _ => rfl
end Sx
