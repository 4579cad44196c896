/- Contracts: what the laws of yards draw. -/
import Derived.Test.YtdobohnkjmgefaaCDb
set_option linter.all false
namespace Sx
open Go Go.Proofs
set_option maxRecDepth 100000
set_option maxHeartbeats 8000000
set_option linter.unusedSimpArgs false
set_option linter.unusedSectionVars false
variable [Glb]
theorem vBig_c (L : List UInt8) (hL : L.length ≤ 9223372036854775807) : C 44 [.sl 1 (L.map i8)] [] (pr (65536 < (L.length : Int))) [] false := by
  refine mkC false false Try.func44 rfl ?_
  refine And.intro nofun ?_
  refine lm ?_
  rotate_left
  refine doneV.mk [] [] rfl rfl ?_ ?_ ?_
  repeat' first | exact trivial | exact rfl | exact Iff.rfl | assumption | exact pureI | exact (show _ = _ by omega) | exact (show _ ≤ _ by omega) | exact (show _ < _ by omega) | exact (show ¬ _ by omega) | refine And.intro ?_ ?_
theorem vCut_c (L : List UInt8) (hL : L.length ≤ 1099511627) (n : Int) (hn : 0 ≤ n) : CE 54 [.sl 1 (L.map i8), i64 n] [] (fun e : List UInt8 => e.length ≤ L.length + 1) (fun _ => .loc 0) (fun e => [.row .plain 1 (e.map i8)]) false := by
  refine mkE false false Try.func54 rfl ?_
  refine And.intro nofun ?_
  refine lm ?_
  refine twoP.mk (fun _ => ?_) (fun _ => ?_)
  refine lm ?_
  iterate 4 refine Z ?_
  refine jkm1 (by omega) ?_
  refine esub ?_
  iterate 4 refine Z ?_
  refine leP.mk (by first | (simp [big]; omega) | (simp [big]; done)) ?_
  refine nr ?_
  iterate 10 refine Z ?_
  refine leP.mk (by first | (simp [big]; omega) | (simp [big]; done)) ?_
  refine er ?_
  rotate_left
  iterate 4 refine Z ?_
  refine jnm1 (by omega) (by omega) ?_
  refine esub ?_
  iterate 4 refine Z ?_
  refine leP.mk (by first | (simp [big]; omega) | (simp [big]; done)) ?_
  refine nr ?_
  iterate 10 refine Z ?_
  refine leP.mk (by first | (simp [big]; omega) | (simp [big]; done)) ?_
  refine er ?_
  rotate_left
  · refine doneE.mk ((List.drop L.length (List.take (List.map i8 L).length L) ++ [UInt8.ofNat ((L.length : Int) % 256).toNat])) ?_ ?_
    rotate_left
    focus
      refine doneV.mk [] [2] rfl rfl ?_ ?_ ?_
      repeat' first | exact trivial | exact rfl | exact Iff.rfl | assumption | exact pureI | exact (show _ = _ by omega) | exact (show _ ≤ _ by omega) | exact (show _ < _ by omega) | exact (show ¬ _ by omega) | refine And.intro ?_ ?_
    rotate_right
    · simp only [List.length_append, List.length_singleton, List.length_drop, List.length_take]; omega
    · exact u8_row _ _
    · exact pureM fun _ => rfl
  · refine doneE.mk ((List.drop n.toNat (List.take (List.map i8 L).length L) ++ [UInt8.ofNat (n % 256).toNat])) ?_ ?_
    rotate_left
    focus
      refine doneV.mk [] [2] rfl rfl ?_ ?_ ?_
      repeat' first | exact trivial | exact rfl | exact Iff.rfl | assumption | exact pureI | exact (show _ = _ by omega) | exact (show _ ≤ _ by omega) | exact (show _ < _ by omega) | exact (show ¬ _ by omega) | refine And.intro ?_ ?_
    rotate_right
    · simp only [List.length_append, List.length_singleton, List.length_drop, List.length_take]; omega
    · exact u8_row _ _
    · exact pureM fun _ => rfl
theorem DrawIsYard_c (L : List UInt8) (hL : L.length ≤ 1099511627776) : CE 135 [.sl 1 (L.map i8)] [] (fun e : Yd => fitY 100 e) (fun e => .agg [i64 e.n, bv e.b, .loc 0, .loc 1, .loc 2, i64 e.c]) (fun e => [row e.w, rowS e.S, rowK e.K]) false := by
  refine mkE false false Try.func135 rfl ?_
  refine And.intro nofun ?_
  iterate 6 refine Z ?_
  refine callW.mkE [] [1] 2 _ _ _ _ (yard_c _ (by first | omega | assumption | (simp; omega) | (simp; done) | exact trivial) _ _ (by first | omega | assumption | (simp; omega) | (simp; done) | exact trivial) (by first | omega | assumption | (simp; omega) | (simp; done) | exact trivial)) rfl rfl (by repeat' first | exact trivial | assumption | exact knownSS | exact knownApp knownSS knownNil | refine And.intro ?_ ?_) (fun _ => ⟨rfl, rfl⟩) (fun _ _ => ?_)
  iterate 4 refine Z ?_
  rotate_left
  rename_i e h
  refine doneE.mk ((e.1)) ?_ ?_
  rotate_left
  focus
    refine doneV.mk [] [2, 3, 4] rfl rfl ?_ ?_ ?_
    repeat' first | exact trivial | exact rfl | exact Iff.rfl | assumption | exact pureI | exact (show _ = _ by omega) | exact (show _ ≤ _ by omega) | exact (show _ < _ by omega) | exact (show ¬ _ by omega) | refine And.intro ?_ ?_
  rotate_right
  · exact h.1
  all_goals exact pureM fun _ => rfl
theorem DrawNewYard_c (L : List UInt8) (hL : L.length ≤ 1099511627776) : CE 50 [.sl 1 (L.map i8)] [] (fun _ : Int × Int => True) (fun e => .tuple [i64 e.1, i64 e.2]) (fun _ => []) false := by
  refine mkE false false Try.func50 rfl ?_
  refine And.intro nofun ?_
  iterate 5 refine Z ?_
  refine callW.mkE [] [0] 1 _ _ _ _ (size_c _ (by first | omega | assumption | (simp; omega) | (simp; done) | exact trivial) _ _ (by first | omega | assumption | (simp; omega) | (simp; done) | exact trivial) (by first | omega | assumption | (simp; omega) | (simp; done) | exact trivial)) rfl rfl (by repeat' first | exact trivial | assumption | exact knownSS | exact knownApp knownSS knownNil | refine And.intro ?_ ?_) (fun _ => ⟨rfl, rfl⟩) (fun _ _ => ?_)
  refine callW.mk [] 1 _ _ _ (least_c _ _) rfl rfl trivial nofun ?_
  refine callW.mk [] 1 _ _ _ (most_c _ _) rfl rfl trivial nofun ?_
  iterate 2 refine callW.mkE [] [0] 1 _ _ _ _ (pick_c _ (by first | omega | assumption | (simp; omega) | (simp; done) | exact trivial) _ _ (by first | omega | assumption | (simp; omega) | (simp; done) | exact trivial) (by first | omega | assumption | (simp; omega) | (simp; done) | exact trivial) _) rfl rfl (by repeat' first | exact trivial | assumption | exact knownSS | exact knownApp knownSS knownNil | refine And.intro ?_ ?_) (fun _ => ⟨rfl, rfl⟩) (fun _ _ => ?_)
  refine And.intro (by omega) ?_
  refine ntd (by omega) (by omega) (by omega) ?_
  refine nw (by omega) (by omega) ?_
  rotate_left
  rename_i e1 h1 e2 h2 e3 h3
  refine doneE.mk ((e1.1, e2.1 - e3.1 / 23)) ?_ ?_
  rotate_left
  focus
    refine doneV.mk [] [] rfl rfl ?_ ?_ ?_
    repeat' first | exact trivial | exact rfl | exact Iff.rfl | assumption | exact pureI | exact (show _ = _ by omega) | exact (show _ ≤ _ by omega) | exact (show _ < _ by omega) | exact (show ¬ _ by omega) | refine And.intro ?_ ?_
  rotate_right
  exact trivial
theorem DrawWorkYard_c (L : List UInt8) (hL : L.length ≤ 1099511627776) : CE 53 [.sl 1 (L.map i8)] [] (fun e : Yd × Jb => fitY 100 e.1) (fun e => .tuple [.agg [i64 e.1.n, bv e.1.b, .loc 0, .loc 1, .loc 2, i64 e.1.c], jv e.2]) (fun e => [row e.1.w, rowS e.1.S, rowK e.1.K]) false := by
  refine mkE false false Try.func53 rfl ?_
  refine And.intro nofun ?_
  iterate 7 refine Z ?_
  refine callW.mkE [] [2] 3 _ _ _ _ (yard_c _ (by first | omega | assumption | (simp; omega) | (simp; done) | exact trivial) _ _ (by first | omega | assumption | (simp; omega) | (simp; done) | exact trivial) (by first | omega | assumption | (simp; omega) | (simp; done) | exact trivial)) rfl rfl (by repeat' first | exact trivial | assumption | exact knownSS | exact knownApp knownSS knownNil | refine And.intro ?_ ?_) (fun _ => ⟨rfl, rfl⟩) (fun _ _ => ?_)
  iterate 5 refine Z ?_
  refine drawP.mkS (Z (Z ?_))
  refine Z ?_
  apply exP.mk
  exact rfl
  apply exP.mk
  exact rfl
  apply exP.mk
  exact rfl
  refine callW.mkE [] [2, 3, 4, 5] 7 _ _ _ _ (job12_c _ (by first | omega | assumption | (simp; omega) | (simp; done) | exact trivial) _ (by first | omega | assumption | (simp; omega) | (simp; done) | exact trivial) _ _ (by first | omega | assumption | (simp; omega) | (simp; done) | exact trivial) (by first | omega | assumption | (simp; omega) | (simp; done) | exact trivial)) rfl rfl (by repeat' first | exact trivial | assumption | exact knownSS | exact knownApp knownSS knownNil | refine And.intro ?_ ?_) (fun _ => ⟨rfl, rfl⟩) (fun _ _ => ?_)
  iterate 12 refine Z ?_
  rotate_left
  rename_i e1 h1 e2 h2
  refine doneE.mk ((e1.1, e2.1)) ?_ ?_
  rotate_left
  focus
    refine doneV.mk [] [3, 4, 5] rfl rfl ?_ ?_ ?_
    repeat' first | exact trivial | exact rfl | exact Iff.rfl | assumption | exact pureI | exact (show _ = _ by omega) | exact (show _ ≤ _ by omega) | exact (show _ < _ by omega) | exact (show ¬ _ by omega) | refine And.intro ?_ ?_
  rotate_right
  · exact h1.1
  all_goals exact pureM fun _ => rfl
theorem DrawWalkerSeen_c (L : List UInt8) (hL : L.length ≤ 1099511627776) : CE 45 [.sl 1 (L.map i8)] [] (fun e : Yd => fitY 100 e) (fun e => .agg [i64 e.n, bv e.b, .loc 0, .loc 1, .loc 2, i64 e.c]) (fun e => [row e.w, rowS e.S, rowK e.K]) false := by
  refine mkE false false Try.func45 rfl ?_
  refine And.intro nofun ?_
  refine Z ?_
  refine callW.mkE [] [] 1 _ _ _ _ (DrawIsYard_c _ (by first | omega | assumption | (simp; omega) | (simp; done) | exact trivial)) rfl rfl trivial nofun (fun _ _ => ?_)
  iterate 4 refine Z ?_
  rotate_left
  rename_i e h
  refine doneE.mk ((e)) ?_ ?_
  rotate_left
  focus
    refine doneV.mk [] [1, 2, 3] rfl rfl ?_ ?_ ?_
    repeat' first | exact trivial | exact rfl | exact Iff.rfl | assumption | exact pureI | exact (show _ = _ by omega) | exact (show _ ≤ _ by omega) | exact (show _ < _ by omega) | exact (show ¬ _ by omega) | refine And.intro ?_ ?_
  rotate_right
  · exact h
  all_goals exact pureM fun _ => rfl
end Sx
