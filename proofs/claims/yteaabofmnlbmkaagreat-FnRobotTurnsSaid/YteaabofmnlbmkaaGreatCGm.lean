/- Contracts: rules are drawn. -/
import Derived.Test.YteaabofmnlbmkaaGreatSyC
import Derived.Test.YteaabofmnlbmkaaGreatCGc
set_option linter.all false
namespace Sx
open Go Go.Proofs
set_option maxRecDepth 100000
set_option maxHeartbeats 8000000
set_option linter.unusedSimpArgs false
set_option linter.unusedSectionVars false
variable [Glb]
def ruleV : Bool → AV
  | false => .loc 1
  | true => .part 1 1 5
theorem robotRule_c (L : List UInt8) (hL : L.length ≤ 1099511627776) (a s : Int) (h0 : 0 ≤ a) (h1 : a ≤ 1099511620000) : CE 69 [.prow 0 0 0] [cur L a s] (fun e : (Bool × List Int) × Int × Int => ((e.1.1 = true → e.1.2.length = 6) ∧ e.1.2.length ≤ 7) ∧ a ≤ e.2.1 ∧ e.2.1 ≤ a + 40) (fun e => ruleV e.1.1) (fun e => [cur L e.2.1 e.2.2, row e.1.2]) true := by
  refine mkE false false Tryz.func69 rfl ?_; refine And.intro nofun ?_; iterate 2 refine Z ?_
  rotate_left; refine loop_up (β := Nat × List Int × Int × Int) (fun (k, l, p, q) => [(4, i64 k), (3, .loc 1)]) (fun (k, l, p, q) => [(0, cur L p q), (1, row l)]) [1] (fun (k, l, p, q) => (l.length = k ∧ k ≤ 6) ∧ a ≤ p ∧ p ≤ a + 2 * (k : Int)) (fun (k, l, p, q) => 6 - k) ((0, [], a, s)) ?_ ?_ ?_
  · exact ⟨⟨rfl, by omega⟩, by omega, by omega⟩
  · refine weak.mk [1] [0, 1] rfl rfl ?_ ?_
    repeat' first | exact trivial | exact rfl | exact Iff.rfl | assumption | exact pureI | exact (show _ = _ by omega) | exact (show _ ≤ _ by omega) | exact (show _ < _ by omega) | exact (show ¬ _ by omega) | refine And.intro ?_ ?_
  · rintro ⟨k, l, p, q⟩ ⟨⟨hl, hk⟩, hp, hp2⟩ R hR
    by_cases hk6 : k < 6
    · refine tY oky ?_
      iterate 8 refine Z ?_
      refine callW.mkE [] [0, 2] 3 _ _ _ _ (among_c _ oka _ _ oka oka _ oka oka) rfl rfl okk (fun _ => ⟨rfl, rfl⟩) (fun _ _ => ?_); iterate 10 refine Z ?_
      refine lem1 (by omega) ?_; refine ea ?_; refine nw (by omega) (by omega) ?_; rotate_left
      rename_i e he
      refine hR ((k + 1, l ++ [e.1], e.2.1, e.2.2)) _ _ ?_ ?_; rotate_left; refine weak.mk [] [0, 4] rfl rfl ?_ ?_
      repeat' first | exact trivial | exact rfl | exact Iff.rfl | assumption | exact pureI | exact (show _ = _ by omega) | exact (show _ ≤ _ by omega) | exact (show _ < _ by omega) | exact (show ¬ _ by omega) | refine And.intro ?_ ?_
      rotate_right
      · refine ⟨⟨⟨by simp only [List.length_append, List.length_singleton]; omega, by omega⟩, by omega, by omega⟩, by show 6 - (k + 1) < 6 - k; omega⟩
    · refine tN okn ?_
      refine callW.mkE [] [0] 2 _ _ _ _ (pick_c _ oka _ _ oka oka _) rfl rfl okk (fun _ => ⟨rfl, rfl⟩) (fun _ _ => ?_); refine twoP.mk (fun _ => ?_) (fun _ => ?_); iterate 6 refine Z ?_
      refine callW.mkE [] [0, 2] 3 _ _ _ _ (among_c _ oka _ _ oka oka _ oka oka) rfl rfl okk (fun _ => ⟨rfl, rfl⟩) (fun _ _ => ?_); iterate 2 refine Z ?_
      refine idxN.mk 0 (by omega) (by simp; omega) rfl ?_; iterate 2 refine Z ?_
      refine gm (by omega) ?_; refine Z ?_; refine eset' ?_; rotate_left; refine twoP.mk (fun _ => ?_) (fun _ => ?_); iterate 2 refine Z ?_
      refine idxN.mk 1 (by omega) (by simp; omega) rfl ?_; rotate_left; refine twoP.mk (fun _ => ?_) (fun _ => ?_); iterate 10 refine Z ?_
      refine lem1 (by omega) ?_; refine ea ?_; iterate 2 rotate_left
      · rename_i f hf c0 g hg
        refine doneE.mk (((false, l.set 0 g.1), g.2.1, g.2.2)) ?_ ?_; rotate_left
        focus
          refine doneV.mk [] [0, 1] rfl rfl ?_ ?_ ?_
          repeat' first | exact trivial | exact rfl | exact Iff.rfl | assumption | exact pureI | exact (show _ = _ by omega) | exact (show _ ≤ _ by omega) | exact (show _ < _ by omega) | exact (show ¬ _ by omega) | refine And.intro ?_ ?_
        rotate_right
        all_goals (first | (dsimp only; rw [List.length_set]; exact ⟨⟨nofun, by omega⟩, by omega, by omega⟩) | skip)
      · rename_i f hf c0 c1
        have hl6 : (List.map i64 l).length - 1 = 5 := by rw [List.length_map]; omega
        refine doneE.mk (((true, l), f.2.1, f.2.2)) ?_ ?_; rotate_left
        focus
          refine doneV.mk [] [0, 1] rfl rfl ?_ ?_ ?_
          repeat' first | exact trivial | exact rfl | exact Iff.rfl | assumption | exact pureI | exact (show _ = _ by omega) | exact (show _ ≤ _ by omega) | exact (show _ < _ by omega) | exact (show ¬ _ by omega) | refine And.intro ?_ ?_
        rotate_right
        all_goals (first | (show le3 _ (AV.part 1 1 ((List.map i64 l).length - 1)) (AV.part 1 1 5); rw [hl6]; first | exact rfl | exact trivial | exact ⟨rfl, rfl, rfl⟩) | (dsimp only; exact ⟨⟨fun _ => by omega, by omega⟩, by omega, by omega⟩) | skip)
      · rename_i f hf c0 c1 c2
        refine doneE.mk (((false, l ++ [0]), f.2.1, f.2.2)) ?_ ?_; rotate_left
        focus
          refine doneV.mk [] [0, 3] rfl rfl ?_ ?_ ?_
          repeat' first | exact trivial | exact rfl | exact Iff.rfl | assumption | exact pureI | exact (show _ = _ by omega) | exact (show _ ≤ _ by omega) | exact (show _ < _ by omega) | exact (show ¬ _ by omega) | refine And.intro ?_ ?_
        rotate_right
        all_goals (first | (dsimp only; rw [List.length_append, List.length_singleton]; exact ⟨⟨nofun, by omega⟩, by omega, by omega⟩) | skip)
      · rename_i f hf c0 c1 c2
        refine doneE.mk (((false, l), f.2.1, f.2.2)) ?_ ?_; rotate_left
        focus
          refine doneV.mk [] [0, 1] rfl rfl ?_ ?_ ?_
          repeat' first | exact trivial | exact rfl | exact Iff.rfl | assumption | exact pureI | exact (show _ = _ by omega) | exact (show _ ≤ _ by omega) | exact (show _ < _ by omega) | exact (show ¬ _ by omega) | refine And.intro ?_ ?_
        rotate_right
        all_goals (first | (dsimp only; exact ⟨⟨nofun, by omega⟩, by omega, by omega⟩) | skip)
end Sx
