/- Contracts: what the law of turns by a rule draws. -/
import Derived.Test.YteaabofmnlbmkaaGreatSyC
import Derived.Test.YteaabofmnlbmkaaGreatCGm
set_option linter.all false
namespace Sx
open Go Go.Proofs
set_option maxRecDepth 100000
set_option maxHeartbeats 8000000
set_option linter.unusedSimpArgs false
set_option linter.unusedSectionVars false
variable [Glb]
structure ShortL (l : List Int) : Prop where
  h : l.length ≤ 7
theorem drop1 {l : List Int} (h : l.length = 6) : List.take 5 (List.drop 1 (List.map i64 l)) = List.map i64 (l.drop 1) := by
  rw [List.take_of_length_le (by rw [List.length_drop, List.length_map]; omega), List.map_drop]
theorem DrawIsRobotRule_c (L : List UInt8) (hL : L.length ≤ 1099511627776) : CE 38 [.sl 1 (L.map i8)] [] (fun e : List Int => ShortL e) (fun e => ints e) (fun _ => []) true := by
  refine mkE false true Tryz.func38 rfl ?_; refine And.intro (fun _ => rfl) ?_; iterate 5 refine Z ?_
  refine callW.mkE [] [0] 1 _ _ _ _ (robotRule_c _ oka _ _ oka oka) rfl rfl okk (fun _ => ⟨rfl, rfl⟩) (fun _ _ => ?_); rotate_left
  rename_i e he
  obtain ⟨⟨f, r⟩, p, q⟩ := e
  dsimp only at he
  cases f
  · have hl6 : True := trivial
    rotate_left; refine doneE.mk (r) ⟨he.1.2⟩ (doneV.fz [] [] rfl rfl rfl ?_ ?_ ?_ trivial)
    all_goals repeat' first | exact trivial | exact rfl | exact Iff.rfl | assumption | refine And.intro ?_ ?_
  · have hl6 := he.1.1 rfl
    have hd5 : (r.drop 1).length ≤ 7 := by rw [List.length_drop]; omega
    rotate_left; refine doneE.mk (r.drop 1) ⟨hd5⟩ (doneV.fz [] [] rfl rfl rfl ?_ ?_ ?_ trivial)
    all_goals repeat' first | exact trivial | exact rfl | exact Iff.rfl | exact drop1 hl6 | assumption | refine And.intro ?_ ?_
theorem DrawStepCrowd_c (L : List UInt8) (hL : L.length ≤ 1099511627776) : CE 28 [.sl 1 (L.map i8)] [] (fun e : (Int × List Int) × List Int => e.1.2.length ≤ 7 ∧ e.2.length ≤ 7) (fun e => .tuple [.agg [i64 e.1.1, ints e.1.2], ints e.2]) (fun _ => []) true := by
  refine mkE false true Tryz.func28 rfl ?_; refine And.intro (fun _ => rfl) ?_; iterate 6 refine Z ?_
  refine callW.mkE [] [1] 2 _ _ _ _ (crowd_c _ oka _ _ oka oka) rfl rfl okk (fun _ => ⟨rfl, rfl⟩) (fun _ _ => ?_); refine callW.mkE [] [1] 3 _ _ _ _ (robotRule_c _ oka _ _ oka oka) rfl rfl okk (fun _ => ⟨rfl, rfl⟩) (fun _ _ => ?_); rotate_left
  rename_i x hx e he
  obtain ⟨⟨f, r⟩, p, q⟩ := e
  dsimp only at he
  cases f
  · have hl6 : True := trivial
    iterate 4 refine Z ?_
    rotate_left; refine doneE.mk ((x.1, r)) ⟨hx.1, he.1.2⟩ (doneV.fz [] [] rfl rfl rfl ?_ ?_ ?_ trivial)
    all_goals repeat' first | exact trivial | exact rfl | exact Iff.rfl | assumption | refine And.intro ?_ ?_
  · have hl6 := he.1.1 rfl
    have hd5 : (r.drop 1).length ≤ 7 := by rw [List.length_drop]; omega
    iterate 4 refine Z ?_
    rotate_left; refine doneE.mk ((x.1, r.drop 1)) ⟨hx.1, hd5⟩ (doneV.fz [] [] rfl rfl rfl ?_ ?_ ?_ trivial)
    all_goals repeat' first | exact trivial | exact rfl | exact Iff.rfl | exact drop1 hl6 | assumption | refine And.intro ?_ ?_
theorem DrawFoundForms_c (L : List UInt8) (hL : L.length ≤ 1099511627776) : CE 35 [.sl 1 (L.map i8)] [] (fun e : (Int × List Int) × List Int => e.1.2.length ≤ 7 ∧ e.2.length ≤ 7) (fun e => .tuple [.agg [i64 e.1.1, ints e.1.2], ints e.2]) (fun _ => []) true := by
  refine mkE false true Tryz.func35 rfl ?_; refine And.intro (fun _ => rfl) ?_; refine Z ?_; refine callW.mkE [] [] 1 _ _ _ _ (DrawStepCrowd_c _ oka) rfl rfl okk (fun _ => ⟨rfl, rfl⟩) (fun _ _ => ?_); iterate 4 refine Z ?_
  rotate_left
  rename_i e he
  refine doneE.mk (e) he (doneV.fz [] [] rfl rfl rfl ?_ ?_ ?_ trivial)
  all_goals repeat' first | exact trivial | exact rfl | exact Iff.rfl | assumption | refine And.intro ?_ ?_
theorem DrawRunCrowd_c (L : List UInt8) (hL : L.length ≤ 1099511627776) : CE 32 [.sl 1 (L.map i8)] [] (fun e : ((Int × List Int) × List Int) × Int => e.1.1.2.length ≤ 7 ∧ e.1.2.length ≤ 7) (fun e => .tuple [.agg [i64 e.1.1.1, ints e.1.1.2], ints e.1.2, i64 e.2]) (fun _ => []) true := by
  refine mkE false true Tryz.func32 rfl ?_; refine And.intro (fun _ => rfl) ?_; iterate 6 refine Z ?_
  refine callW.mkE [] [1] 2 _ _ _ _ (crowd_c _ oka _ _ oka oka) rfl rfl okk (fun _ => ⟨rfl, rfl⟩) (fun _ _ => ?_); refine callW.mkE [] [1] 3 _ _ _ _ (robotRule_c _ oka _ _ oka oka) rfl rfl okk (fun _ => ⟨rfl, rfl⟩) (fun _ _ => ?_); rotate_left
  rename_i x hx e he
  obtain ⟨⟨f, r⟩, p, q⟩ := e
  dsimp only at he
  cases f
  · have hl6 : True := trivial
    iterate 12 refine Z ?_
    refine callW.mkE [] [1, 4] 5 _ _ _ _ (among_c _ oka _ _ oka oka _ oka oka) rfl rfl okk (fun _ => ⟨rfl, rfl⟩) (fun _ _ => ?_); iterate 4 refine Z ?_
    rotate_left
    rename_i y hy
    refine doneE.mk (((x.1, r), y.1)) ⟨hx.1, he.1.2⟩ (doneV.fz [] [] rfl rfl rfl ?_ ?_ ?_ trivial)
    all_goals repeat' first | exact trivial | exact rfl | exact Iff.rfl | assumption | refine And.intro ?_ ?_
  · have hl6 := he.1.1 rfl
    have hd5 : (r.drop 1).length ≤ 7 := by rw [List.length_drop]; omega
    iterate 12 refine Z ?_
    refine callW.mkE [] [1, 4] 5 _ _ _ _ (among_c _ oka _ _ oka oka _ oka oka) rfl rfl okk (fun _ => ⟨rfl, rfl⟩) (fun _ _ => ?_); iterate 4 refine Z ?_
    rotate_left
    rename_i y hy
    refine doneE.mk (((x.1, r.drop 1), y.1)) ⟨hx.1, hd5⟩ (doneV.fz [] [] rfl rfl rfl ?_ ?_ ?_ trivial)
    all_goals repeat' first | exact trivial | exact rfl | exact Iff.rfl | exact drop1 hl6 | assumption | refine And.intro ?_ ?_
end Sx
