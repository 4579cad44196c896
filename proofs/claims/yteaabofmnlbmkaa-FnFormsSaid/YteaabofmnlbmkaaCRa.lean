/- Contracts: lists that are sorted and compared. -/
import Derived.Test.YteaabofmnlbmkaaSyC
import Derived.Test.YteaabofmnlbmkaaCa
import Derived.Test.YteaabofmnlbmkaaMxA
set_option linter.all false
namespace Sx
open Go Go.Proofs
set_option maxRecDepth 100000
set_option maxHeartbeats 8000000
set_option linter.unusedSimpArgs false
set_option linter.unusedSectionVars false
variable [Glb]
theorem isNaN_c (x : Int) : C 120 [i64 x] [] .ff [] false := by
  refine mkC false false Try.func120 rfl ?_; refine And.intro nofun ?_; rotate_left; refine doneV.mk [] [] rfl rfl ?_ ?_ ?_
  repeat' first | exact trivial | exact rfl | exact Iff.rfl | assumption | exact pureI | exact (show _ = _ by omega) | exact (show _ ≤ _ by omega) | exact (show _ < _ by omega) | exact (show ¬ _ by omega) | refine And.intro ?_ ?_
theorem cmpLess_c (x y : Int) : C 129 [i64 x, i64 y] [] (pr (x < y)) [] false := by
  refine mkC false false Try.func129 rfl ?_; refine And.intro nofun ?_; refine callW.mk [] 0 _ _ _ (isNaN_c _) rfl rfl trivial nofun ?_; rotate_left; refine doneV.mk [] [] rfl rfl ?_ ?_ ?_
  repeat' first | exact trivial | exact rfl | exact Iff.rfl | assumption | exact pureI | exact (show _ = _ by omega) | exact (show _ ≤ _ by omega) | exact (show _ < _ by omega) | exact (show ¬ _ by omega) | refine And.intro ?_ ?_
theorem cmpCompare_c (x y : Int) : C 110 [i64 x, i64 y] [] (i64 (if x < y then -1 else if y < x then 1 else 0)) [] false := by
  refine mkC false false Try.func110 rfl ?_; refine And.intro nofun ?_
  by_cases h : x < y
  · rw [if_pos h]
    iterate 2 refine callW.mk [] 0 _ _ _ (isNaN_c _) rfl rfl trivial nofun ?_
    refine tY oky ?_; rotate_left; refine doneV.mk [] [] rfl rfl ?_ ?_ ?_
    repeat' first | exact trivial | exact rfl | exact Iff.rfl | assumption | exact pureI | exact (show _ = _ by omega) | exact (show _ ≤ _ by omega) | exact (show _ < _ by omega) | exact (show ¬ _ by omega) | refine And.intro ?_ ?_
  · rw [if_neg h]
    by_cases h2 : y < x
    · rw [if_pos h2]
      iterate 2 refine callW.mk [] 0 _ _ _ (isNaN_c _) rfl rfl trivial nofun ?_
      refine tN okn ?_; refine tY oky ?_; rotate_left; refine doneV.mk [] [] rfl rfl ?_ ?_ ?_
      repeat' first | exact trivial | exact rfl | exact Iff.rfl | assumption | exact pureI | exact (show _ = _ by omega) | exact (show _ ≤ _ by omega) | exact (show _ < _ by omega) | exact (show ¬ _ by omega) | refine And.intro ?_ ?_
    · rw [if_neg h2]
      iterate 2 refine callW.mk [] 0 _ _ _ (isNaN_c _) rfl rfl trivial nofun ?_
      iterate 2 refine tN okn ?_
      rotate_left; refine doneV.mk [] [] rfl rfl ?_ ?_ ?_
      repeat' first | exact trivial | exact rfl | exact Iff.rfl | assumption | exact pureI | exact (show _ = _ by omega) | exact (show _ ≤ _ by omega) | exact (show _ < _ by omega) | exact (show ¬ _ by omega) | refine And.intro ?_ ?_
theorem Compare_c (a b : List Int) (ha : a.length ≤ 1099511627776) (hb : b.length ≤ 1099511627776) : C 88 [ints a, ints b] [] (i64 (cmpL a b)) [] false := by
  refine mkC false false Try.func88 rfl ?_; refine And.intro nofun ?_; refine lm ?_; rotate_left; refine loop_up (β := Nat) (fun k => [(11, i64 k), (4, .unk)]) (fun k => []) [] (fun k => k ≤ a.length ∧ cmpL a b = cmpL (a.drop k) (b.drop k)) (fun k => a.length - k) (0) ?_ ?_ ?_
  · exact ⟨Nat.zero_le _, rfl⟩
  · refine weak.mk [] [] rfl rfl ?_ ?_
    repeat' first | exact trivial | exact rfl | exact Iff.rfl | assumption | exact pureI | exact (show _ = _ by omega) | exact (show _ ≤ _ by omega) | exact (show _ < _ by omega) | exact (show ¬ _ by omega) | refine And.intro ?_ ?_
  · rintro k ⟨hk, hi⟩ R hR
    by_cases hka : k < a.length
    · by_cases hkb : k < b.length
      · rcases Int.lt_trichotomy a[k] b[k] with h | h | h
        · have e := cmpL_lt hka hkb h
          have hc := cmpCompare_c a[k] b[k]
          rw [if_pos h] at hc
          refine tY oky ?_; iterate 2 refine Z ?_
          refine jkm (by omega) ?_; refine gm (by omega) ?_; refine lm ?_; refine tN okn ?_; iterate 2 refine Z ?_
          refine jkm (by omega) ?_; refine gm (by omega) ?_; refine callW.mk [] 0 _ _ _ (hc) rfl rfl okk nofun ?_; refine tY oky ?_; rotate_left
          rw [hi, e]
          refine doneV.mk [] [] rfl rfl ?_ ?_ ?_
          repeat' first | exact trivial | exact rfl | exact Iff.rfl | assumption | exact pureI | exact (show _ = _ by omega) | exact (show _ ≤ _ by omega) | exact (show _ < _ by omega) | exact (show ¬ _ by omega) | refine And.intro ?_ ?_
        · have e := cmpL_drop hka hkb h
          have hc := cmpCompare_c a[k] b[k]
          rw [if_neg (by omega), if_neg (by omega)] at hc
          refine tY oky ?_; iterate 2 refine Z ?_
          refine jkm (by omega) ?_; refine gmv (by omega) h ?_; refine lm ?_; refine tN okn ?_; iterate 2 refine Z ?_
          refine jkm (by omega) ?_; refine gm (by omega) ?_; refine callW.mk [] 0 _ _ _ (cmpCompare_c _ _) rfl rfl trivial nofun ?_; refine tN okn ?_; refine nw (by omega) (by omega) ?_; rotate_left; refine hR (k + 1) _ _ ?_ ?_; rotate_left; refine weak.mk [] [] rfl rfl ?_ ?_
          repeat' first | exact trivial | exact rfl | exact Iff.rfl | assumption | exact pureI | exact (show _ = _ by omega) | exact (show _ ≤ _ by omega) | exact (show _ < _ by omega) | exact (show ¬ _ by omega) | refine And.intro ?_ ?_
          rotate_right
          exact ⟨⟨by omega, hi.trans e⟩, by omega⟩
        · have e := cmpL_gt hka hkb h
          have hc := cmpCompare_c a[k] b[k]
          rw [if_neg (by omega), if_pos h] at hc
          refine tY oky ?_; iterate 2 refine Z ?_
          refine jkm (by omega) ?_; refine gm (by omega) ?_; refine lm ?_; refine tN okn ?_; iterate 2 refine Z ?_
          refine jkm (by omega) ?_; refine gm (by omega) ?_; refine callW.mk [] 0 _ _ _ (hc) rfl rfl okk nofun ?_; refine tY oky ?_; rotate_left
          rw [hi, e]
          refine doneV.mk [] [] rfl rfl ?_ ?_ ?_
          repeat' first | exact trivial | exact rfl | exact Iff.rfl | assumption | exact pureI | exact (show _ = _ by omega) | exact (show _ ≤ _ by omega) | exact (show _ < _ by omega) | exact (show ¬ _ by omega) | refine And.intro ?_ ?_
      · have e := cmpL_end2 (b := b) hka (by omega)
        refine tY oky ?_; iterate 2 refine Z ?_
        refine jkm (by omega) ?_; refine gm (by omega) ?_; refine lm ?_; refine tY oky ?_; rotate_left
        rw [hi, e]
        refine doneV.mk [] [] rfl rfl ?_ ?_ ?_
        repeat' first | exact trivial | exact rfl | exact Iff.rfl | assumption | exact pureI | exact (show _ = _ by omega) | exact (show _ ≤ _ by omega) | exact (show _ < _ by omega) | exact (show ¬ _ by omega) | refine And.intro ?_ ?_
    · have e := cmpL_end (a := a) (b := b) (k := k) (by omega)
      by_cases hkb : k < b.length
      · rw [if_neg (by omega)] at e
        refine tN okn ?_; iterate 2 refine lm ?_
        refine tY oky ?_; rotate_left
        rw [hi, e]
        refine doneV.mk [] [] rfl rfl ?_ ?_ ?_
        repeat' first | exact trivial | exact rfl | exact Iff.rfl | assumption | exact pureI | exact (show _ = _ by omega) | exact (show _ ≤ _ by omega) | exact (show _ < _ by omega) | exact (show ¬ _ by omega) | refine And.intro ?_ ?_
      · rw [if_pos (by omega)] at e
        refine tN okn ?_; iterate 2 refine lm ?_
        refine tN okn ?_; rotate_left
        rw [hi, e]
        refine doneV.mk [] [] rfl rfl ?_ ?_ ?_
        repeat' first | exact trivial | exact rfl | exact Iff.rfl | assumption | exact pureI | exact (show _ = _ by omega) | exact (show _ ≤ _ by omega) | exact (show _ < _ by omega) | exact (show ¬ _ by omega) | refine And.intro ?_ ?_
theorem l10Less_c (a b : List Int) (ha : a.length ≤ 1099511627776) (hb : a.length = b.length) : C 87 [ints a, ints b] [] (pr (cmpL a b < 0)) [] false := by
  refine mkC false false Try.func87 rfl ?_; refine And.intro nofun ?_; rotate_left; refine loop_up (β := Nat) (fun k => [(5, i64 k), (4, .unk)]) (fun k => []) [] (fun k => k ≤ a.length ∧ cmpL a b = cmpL (a.drop k) (b.drop k)) (fun k => a.length - k) (0) ?_ ?_ ?_
  · exact ⟨Nat.zero_le _, rfl⟩
  · refine weak.mk [] [] rfl rfl ?_ ?_
    repeat' first | exact trivial | exact rfl | exact Iff.rfl | assumption | exact pureI | exact (show _ = _ by omega) | exact (show _ ≤ _ by omega) | exact (show _ < _ by omega) | exact (show ¬ _ by omega) | refine And.intro ?_ ?_
  · rintro k ⟨hk, hi⟩ R hR
    by_cases hka : k < a.length
    · have hkb : k < b.length := by omega
      rcases Int.lt_trichotomy a[k] b[k] with h | h | h
      · have e := cmpL_lt hka hkb h
        refine lm ?_; refine tY oky ?_; refine drawP.mkS (Z (Z ?_)); refine Z ?_
        apply exP.mk
        exact rfl
        apply exP.mk
        exact rfl
        apply exP.mk
        iterate 2 refine Z ?_
        refine jkm (by omega) ?_
        exact rfl
        apply exP.mk
        refine gm (by omega) ?_
        exact rfl
        apply exP.mk
        exact rfl
        apply exP.mk
        exact rfl
        apply exP.mk
        iterate 2 refine Z ?_
        refine jkm (by omega) ?_
        exact rfl
        apply exP.mk
        refine gm (by omega) ?_
        exact rfl
        apply exP.mk
        exact rfl
        refine tY oky ?_; refine drawP.mkS (Z (Z ?_)); refine Z ?_
        apply exP.mk
        exact rfl
        apply exP.mk
        exact rfl
        apply exP.mk
        iterate 2 refine Z ?_
        refine jkm (by omega) ?_
        exact rfl
        apply exP.mk
        refine gm (by omega) ?_
        exact rfl
        apply exP.mk
        exact rfl
        apply exP.mk
        exact rfl
        apply exP.mk
        iterate 2 refine Z ?_
        refine jkm (by omega) ?_
        exact rfl
        apply exP.mk
        refine gm (by omega) ?_
        exact rfl
        apply exP.mk
        exact rfl
        apply exP.mk
        exact rfl
        rotate_left
        rw [hi, e]
        refine dv0 rfl ?_
        exact ⟨fun _ => by decide, fun _ => h⟩
      · have e := cmpL_drop hka hkb h
        refine lm ?_; refine tY oky ?_; refine drawP.mkS (Z (Z ?_)); refine Z ?_
        apply exP.mk
        exact rfl
        apply exP.mk
        exact rfl
        apply exP.mk
        iterate 2 refine Z ?_
        refine jkm (by omega) ?_
        exact rfl
        apply exP.mk
        refine gmv (by omega) h ?_
        exact rfl
        apply exP.mk
        exact rfl
        apply exP.mk
        exact rfl
        apply exP.mk
        iterate 2 refine Z ?_
        refine jkm (by omega) ?_
        exact rfl
        apply exP.mk
        refine gm (by omega) ?_
        exact rfl
        apply exP.mk
        exact rfl
        refine tN okn ?_; refine nw (by omega) (by omega) ?_; rotate_left; refine hR (k + 1) _ _ ?_ ?_; rotate_left; refine weak.mk [] [] rfl rfl ?_ ?_
        repeat' first | exact trivial | exact rfl | exact Iff.rfl | assumption | exact pureI | exact (show _ = _ by omega) | exact (show _ ≤ _ by omega) | exact (show _ < _ by omega) | exact (show ¬ _ by omega) | refine And.intro ?_ ?_
        rotate_right
        exact ⟨⟨by omega, hi.trans e⟩, by omega⟩
      · have e := cmpL_gt hka hkb h
        refine lm ?_; refine tY oky ?_; refine drawP.mkS (Z (Z ?_)); refine Z ?_
        apply exP.mk
        exact rfl
        apply exP.mk
        exact rfl
        apply exP.mk
        iterate 2 refine Z ?_
        refine jkm (by omega) ?_
        exact rfl
        apply exP.mk
        refine gm (by omega) ?_
        exact rfl
        apply exP.mk
        exact rfl
        apply exP.mk
        exact rfl
        apply exP.mk
        iterate 2 refine Z ?_
        refine jkm (by omega) ?_
        exact rfl
        apply exP.mk
        refine gm (by omega) ?_
        exact rfl
        apply exP.mk
        exact rfl
        refine tY oky ?_; refine drawP.mkS (Z (Z ?_)); refine Z ?_
        apply exP.mk
        exact rfl
        apply exP.mk
        exact rfl
        apply exP.mk
        iterate 2 refine Z ?_
        refine jkm (by omega) ?_
        exact rfl
        apply exP.mk
        refine gm (by omega) ?_
        exact rfl
        apply exP.mk
        exact rfl
        apply exP.mk
        exact rfl
        apply exP.mk
        iterate 2 refine Z ?_
        refine jkm (by omega) ?_
        exact rfl
        apply exP.mk
        refine gm (by omega) ?_
        exact rfl
        apply exP.mk
        exact rfl
        apply exP.mk
        exact rfl
        rotate_left
        rw [hi, e]
        refine dv0 rfl ?_
        exact ⟨fun h2 => by omega, fun h2 => by omega⟩
    · have e := cmpL_end (a := a) (b := b) (k := k) (by omega)
      rw [if_pos (by omega)] at e
      refine lm ?_; refine tN okn ?_; rotate_left
      rw [hi, e]
      refine doneV.mk [] [] rfl rfl ?_ ?_ ?_
      repeat' first | exact trivial | exact rfl | exact Iff.rfl | assumption | exact pureI | exact (show _ = _ by omega) | exact (show _ ≤ _ by omega) | exact (show _ < _ by omega) | exact (show ¬ _ by omega) | refine And.intro ?_ ?_
theorem Len64_c (x : Int) (h0 : 0 ≤ x) (h1 : x ≤ 12) : CE 133 [.int .u64 x] [] (fun _ : Int => True) (fun e => i64 e) (fun _ => []) false := by
  have h : x = 0 ∨ x = 1 ∨ x = 2 ∨ x = 3 ∨ x = 4 ∨ x = 5 ∨ x = 6 ∨ x = 7 ∨ x = 8 ∨ x = 9 ∨ x = 10 ∨ x = 11 ∨ x = 12 := by omega
  rcases h with h | h | h | h | h | h | h | h | h | h | h | h | h <;> subst h
  · refine mkE false false Try.func133 rfl ?_
    refine And.intro nofun ?_; iterate 3 refine tN okn ?_
    refine nr ?_; refine idxN.mk 0 (by decide) (by decide) rfl ?_; rotate_left
    change num .i64 (Go.IntKind.i64.wrap ((0 : Nat) : Int)) _
    iterate 2 refine nw (by omega) (by omega) ?_
    rotate_left; refine doneE.mk ((0)) ?_ ?_
    rotate_left
    focus
      refine doneV.mk [] [] rfl rfl ?_ ?_ ?_
      repeat' first | exact trivial | exact rfl | exact Iff.rfl | assumption | exact pureI | exact (show _ = _ by omega) | exact (show _ ≤ _ by omega) | exact (show _ < _ by omega) | exact (show ¬ _ by omega) | refine And.intro ?_ ?_
    rotate_right; exact trivial
  · refine mkE false false Try.func133 rfl ?_
    refine And.intro nofun ?_; iterate 3 refine tN okn ?_
    refine nr ?_; refine idxN.mk 1 (by decide) (by decide) rfl ?_; rotate_left
    change num .i64 (Go.IntKind.i64.wrap ((1 : Nat) : Int)) _
    iterate 2 refine nw (by omega) (by omega) ?_
    rotate_left; refine doneE.mk ((1)) ?_ ?_
    rotate_left
    focus
      refine doneV.mk [] [] rfl rfl ?_ ?_ ?_
      repeat' first | exact trivial | exact rfl | exact Iff.rfl | assumption | exact pureI | exact (show _ = _ by omega) | exact (show _ ≤ _ by omega) | exact (show _ < _ by omega) | exact (show ¬ _ by omega) | refine And.intro ?_ ?_
    rotate_right; exact trivial
  · refine mkE false false Try.func133 rfl ?_
    refine And.intro nofun ?_; iterate 3 refine tN okn ?_
    refine nr ?_; refine idxN.mk 2 (by decide) (by decide) rfl ?_; rotate_left
    change num .i64 (Go.IntKind.i64.wrap ((2 : Nat) : Int)) _
    iterate 2 refine nw (by omega) (by omega) ?_
    rotate_left; refine doneE.mk ((2)) ?_ ?_
    rotate_left
    focus
      refine doneV.mk [] [] rfl rfl ?_ ?_ ?_
      repeat' first | exact trivial | exact rfl | exact Iff.rfl | assumption | exact pureI | exact (show _ = _ by omega) | exact (show _ ≤ _ by omega) | exact (show _ < _ by omega) | exact (show ¬ _ by omega) | refine And.intro ?_ ?_
    rotate_right; exact trivial
  · refine mkE false false Try.func133 rfl ?_
    refine And.intro nofun ?_; iterate 3 refine tN okn ?_
    refine nr ?_; refine idxN.mk 3 (by decide) (by decide) rfl ?_; rotate_left
    change num .i64 (Go.IntKind.i64.wrap ((2 : Nat) : Int)) _
    iterate 2 refine nw (by omega) (by omega) ?_
    rotate_left; refine doneE.mk ((2)) ?_ ?_
    rotate_left
    focus
      refine doneV.mk [] [] rfl rfl ?_ ?_ ?_
      repeat' first | exact trivial | exact rfl | exact Iff.rfl | assumption | exact pureI | exact (show _ = _ by omega) | exact (show _ ≤ _ by omega) | exact (show _ < _ by omega) | exact (show ¬ _ by omega) | refine And.intro ?_ ?_
    rotate_right; exact trivial
  · refine mkE false false Try.func133 rfl ?_
    refine And.intro nofun ?_; iterate 3 refine tN okn ?_
    refine nr ?_; refine idxN.mk 4 (by decide) (by decide) rfl ?_; rotate_left
    change num .i64 (Go.IntKind.i64.wrap ((3 : Nat) : Int)) _
    iterate 2 refine nw (by omega) (by omega) ?_
    rotate_left; refine doneE.mk ((3)) ?_ ?_
    rotate_left
    focus
      refine doneV.mk [] [] rfl rfl ?_ ?_ ?_
      repeat' first | exact trivial | exact rfl | exact Iff.rfl | assumption | exact pureI | exact (show _ = _ by omega) | exact (show _ ≤ _ by omega) | exact (show _ < _ by omega) | exact (show ¬ _ by omega) | refine And.intro ?_ ?_
    rotate_right; exact trivial
  · refine mkE false false Try.func133 rfl ?_
    refine And.intro nofun ?_; iterate 3 refine tN okn ?_
    refine nr ?_; refine idxN.mk 5 (by decide) (by decide) rfl ?_; rotate_left
    change num .i64 (Go.IntKind.i64.wrap ((3 : Nat) : Int)) _
    iterate 2 refine nw (by omega) (by omega) ?_
    rotate_left; refine doneE.mk ((3)) ?_ ?_
    rotate_left
    focus
      refine doneV.mk [] [] rfl rfl ?_ ?_ ?_
      repeat' first | exact trivial | exact rfl | exact Iff.rfl | assumption | exact pureI | exact (show _ = _ by omega) | exact (show _ ≤ _ by omega) | exact (show _ < _ by omega) | exact (show ¬ _ by omega) | refine And.intro ?_ ?_
    rotate_right; exact trivial
  · refine mkE false false Try.func133 rfl ?_
    refine And.intro nofun ?_; iterate 3 refine tN okn ?_
    refine nr ?_; refine idxN.mk 6 (by decide) (by decide) rfl ?_; rotate_left
    change num .i64 (Go.IntKind.i64.wrap ((3 : Nat) : Int)) _
    iterate 2 refine nw (by omega) (by omega) ?_
    rotate_left; refine doneE.mk ((3)) ?_ ?_
    rotate_left
    focus
      refine doneV.mk [] [] rfl rfl ?_ ?_ ?_
      repeat' first | exact trivial | exact rfl | exact Iff.rfl | assumption | exact pureI | exact (show _ = _ by omega) | exact (show _ ≤ _ by omega) | exact (show _ < _ by omega) | exact (show ¬ _ by omega) | refine And.intro ?_ ?_
    rotate_right; exact trivial
  · refine mkE false false Try.func133 rfl ?_
    refine And.intro nofun ?_; iterate 3 refine tN okn ?_
    refine nr ?_; refine idxN.mk 7 (by decide) (by decide) rfl ?_; rotate_left
    change num .i64 (Go.IntKind.i64.wrap ((3 : Nat) : Int)) _
    iterate 2 refine nw (by omega) (by omega) ?_
    rotate_left; refine doneE.mk ((3)) ?_ ?_
    rotate_left
    focus
      refine doneV.mk [] [] rfl rfl ?_ ?_ ?_
      repeat' first | exact trivial | exact rfl | exact Iff.rfl | assumption | exact pureI | exact (show _ = _ by omega) | exact (show _ ≤ _ by omega) | exact (show _ < _ by omega) | exact (show ¬ _ by omega) | refine And.intro ?_ ?_
    rotate_right; exact trivial
  · refine mkE false false Try.func133 rfl ?_
    refine And.intro nofun ?_; iterate 3 refine tN okn ?_
    refine nr ?_; refine idxN.mk 8 (by decide) (by decide) rfl ?_; rotate_left
    change num .i64 (Go.IntKind.i64.wrap ((4 : Nat) : Int)) _
    iterate 2 refine nw (by omega) (by omega) ?_
    rotate_left; refine doneE.mk ((4)) ?_ ?_
    rotate_left
    focus
      refine doneV.mk [] [] rfl rfl ?_ ?_ ?_
      repeat' first | exact trivial | exact rfl | exact Iff.rfl | assumption | exact pureI | exact (show _ = _ by omega) | exact (show _ ≤ _ by omega) | exact (show _ < _ by omega) | exact (show ¬ _ by omega) | refine And.intro ?_ ?_
    rotate_right; exact trivial
  · refine mkE false false Try.func133 rfl ?_
    refine And.intro nofun ?_; iterate 3 refine tN okn ?_
    refine nr ?_; refine idxN.mk 9 (by decide) (by decide) rfl ?_; rotate_left
    change num .i64 (Go.IntKind.i64.wrap ((4 : Nat) : Int)) _
    iterate 2 refine nw (by omega) (by omega) ?_
    rotate_left; refine doneE.mk ((4)) ?_ ?_
    rotate_left
    focus
      refine doneV.mk [] [] rfl rfl ?_ ?_ ?_
      repeat' first | exact trivial | exact rfl | exact Iff.rfl | assumption | exact pureI | exact (show _ = _ by omega) | exact (show _ ≤ _ by omega) | exact (show _ < _ by omega) | exact (show ¬ _ by omega) | refine And.intro ?_ ?_
    rotate_right; exact trivial
  · refine mkE false false Try.func133 rfl ?_
    refine And.intro nofun ?_; iterate 3 refine tN okn ?_
    refine nr ?_; refine idxN.mk 10 (by decide) (by decide) rfl ?_; rotate_left
    change num .i64 (Go.IntKind.i64.wrap ((4 : Nat) : Int)) _
    iterate 2 refine nw (by omega) (by omega) ?_
    rotate_left; refine doneE.mk ((4)) ?_ ?_
    rotate_left
    focus
      refine doneV.mk [] [] rfl rfl ?_ ?_ ?_
      repeat' first | exact trivial | exact rfl | exact Iff.rfl | assumption | exact pureI | exact (show _ = _ by omega) | exact (show _ ≤ _ by omega) | exact (show _ < _ by omega) | exact (show ¬ _ by omega) | refine And.intro ?_ ?_
    rotate_right; exact trivial
  · refine mkE false false Try.func133 rfl ?_
    refine And.intro nofun ?_; iterate 3 refine tN okn ?_
    refine nr ?_; refine idxN.mk 11 (by decide) (by decide) rfl ?_; rotate_left
    change num .i64 (Go.IntKind.i64.wrap ((4 : Nat) : Int)) _
    iterate 2 refine nw (by omega) (by omega) ?_
    rotate_left; refine doneE.mk ((4)) ?_ ?_
    rotate_left
    focus
      refine doneV.mk [] [] rfl rfl ?_ ?_ ?_
      repeat' first | exact trivial | exact rfl | exact Iff.rfl | assumption | exact pureI | exact (show _ = _ by omega) | exact (show _ ≤ _ by omega) | exact (show _ < _ by omega) | exact (show ¬ _ by omega) | refine And.intro ?_ ?_
    rotate_right; exact trivial
  · refine mkE false false Try.func133 rfl ?_
    refine And.intro nofun ?_; iterate 3 refine tN okn ?_
    refine nr ?_; refine idxN.mk 12 (by decide) (by decide) rfl ?_; rotate_left
    change num .i64 (Go.IntKind.i64.wrap ((4 : Nat) : Int)) _
    iterate 2 refine nw (by omega) (by omega) ?_
    rotate_left; refine doneE.mk ((4)) ?_ ?_
    rotate_left
    focus
      refine doneV.mk [] [] rfl rfl ?_ ?_ ?_
      repeat' first | exact trivial | exact rfl | exact Iff.rfl | assumption | exact pureI | exact (show _ = _ by omega) | exact (show _ ≤ _ by omega) | exact (show _ < _ by omega) | exact (show ¬ _ by omega) | refine And.intro ?_ ?_
    rotate_right; exact trivial
theorem Len_c (x : Int) (h0 : 0 ≤ x) (h1 : x ≤ 12) : CE 118 [.int .u64 x] [] (fun _ : Int => True) (fun e => i64 e) (fun _ => []) false := by
  refine mkE false false Try.func118 rfl ?_; refine And.intro nofun ?_; refine callW.mkE [] [] 0 _ _ _ _ (Len64_c _ oka oka) rfl rfl trivial nofun (fun _ _ => ?_); rotate_left
  rename_i e h
  refine doneE.mk ((e)) ?_ ?_; rotate_left
  focus
    refine doneV.mk [] [] rfl rfl ?_ ?_ ?_
    repeat' first | exact trivial | exact rfl | exact Iff.rfl | assumption | exact pureI | exact (show _ = _ by omega) | exact (show _ ≤ _ by omega) | exact (show _ < _ by omega) | exact (show ¬ _ by omega) | refine And.intro ?_ ?_
  rotate_right; exact trivial
theorem insertionSort_c (l : List Int) (hl : l.length ≤ 100) (n : Int) (hn : n = l.length) : CE 123 [.loc 0, i64 0, i64 n] [row l] (fun M : List Int => M.Perm l ∧ sortU M M.length) (fun _ => .tuple []) (fun M => [row M]) false := by
  subst hn
  refine mkE false false Try.func123 rfl ?_; refine And.intro nofun ?_; refine nw (by omega) (by omega) ?_; rotate_left; refine loop_up (β := Nat × List Int) (fun (i, X) => [(6, i64 i)]) (fun (i, X) => [(0, row X)]) [] (fun (i, X) => 1 ≤ i ∧ X.Perm l ∧ (i ≤ l.length ∨ i = 1) ∧ sortU X i) (fun (i, X) => l.length - i) ((1, l)) ?_ ?_ ?_
  · exact ⟨by omega, List.Perm.refl _, .inr rfl, fun p q h1 h2 => by omega⟩
  · refine weak.mk [] [0] rfl rfl ?_ ?_
    repeat' first | exact trivial | exact rfl | exact Iff.rfl | assumption | exact pureI | exact (show _ = _ by omega) | exact (show _ ≤ _ by omega) | exact (show _ < _ by omega) | exact (show ¬ _ by omega) | refine And.intro ?_ ?_
  · rintro ⟨i, X⟩ ⟨hi, hp, hi2, hs⟩ R hR
    have hXl := hp.length_eq
    by_cases hil : i < l.length
    · refine tY oky ?_
      rotate_left; refine loop_up (β := Nat × List Int) (fun (j, Y) => [(7, i64 j)]) (fun (j, Y) => [(0, row Y)]) [] (fun (j, Y) => j ≤ i ∧ Y.Perm l ∧ sortI Y i j) (fun (j, Y) => j) ((i, X)) ?_ ?_ ?_
      · exact ⟨Nat.le_refl _, hp, sortI_start hs⟩
      · refine weak.mk [] [0] rfl rfl ?_ ?_
        repeat' first | exact trivial | exact rfl | exact Iff.rfl | assumption | exact pureI | exact (show _ = _ by omega) | exact (show _ ≤ _ by omega) | exact (show _ < _ by omega) | exact (show ¬ _ by omega) | refine And.intro ?_ ?_
      · rintro ⟨j, Y⟩ ⟨hj, hq, ht⟩ R2 hR2
        have hYl := hq.length_eq
        by_cases hj0 : 0 < j
        · by_cases hlt : Y[j] < Y[j - 1]
          · refine drawP.mk 15 (Z (Z (Z (Z ?_))))
            apply exP.mk
            exact rfl
            apply exP.mk
            exact rfl
            apply exP.mk
            exact rfl
            apply exP.mk
            exact rfl
            refine tY oky ?_
            apply exP.mk
            exact rfl
            apply exP.mk
            exact rfl
            apply exP.mk
            iterate 2 refine Z ?_
            refine jkm (by omega) ?_
            exact rfl
            apply exP.mk
            refine gm (by omega) ?_
            exact rfl
            apply exP.mk
            exact rfl
            apply exP.mk
            exact rfl
            apply exP.mk
            refine nw (by omega) (by omega) ?_
            exact rfl
            apply exP.mk
            iterate 2 refine Z ?_
            refine jmm (by omega) (by omega) ?_
            exact rfl
            apply exP.mk
            refine gm (by omega) ?_
            exact rfl
            apply exP.mk
            refine callP.mk _ _ _ (cmpLess_c _ _) trivial nofun trivial ?_
            exact rfl
            refine tY oky ?_; refine drawP.mkS (Z (Z ?_)); refine Z ?_
            apply exP.mk
            exact rfl
            apply exP.mk
            exact rfl
            apply exP.mk
            exact rfl
            apply exP.mk
            exact rfl
            apply exP.mk
            refine nw (by omega) (by omega) ?_
            exact rfl
            apply exP.mk
            exact rfl
            apply exP.mk
            exact rfl
            apply exP.mk
            refine nw (by omega) (by omega) ?_
            exact rfl
            apply exP.mk
            iterate 2 refine Z ?_
            refine jmm (by omega) (by omega) ?_
            exact rfl
            apply exP.mk
            refine gm (by omega) ?_
            exact rfl
            apply exP.mk
            exact rfl
            apply exP.mk
            exact rfl
            apply exP.mk
            iterate 2 refine Z ?_
            refine jkm (by omega) ?_
            exact rfl
            apply exP.mk
            refine gm (by omega) ?_
            exact rfl
            apply exP.mk
            iterate 2 refine Z ?_
            refine jkm (by omega) ?_
            exact rfl
            iterate 2 refine Z ?_
            refine gm (by omega) ?_; refine Z ?_; refine eset' ?_; iterate 3 refine Z ?_
            refine And.intro ?_ ?_; refine nw (by omega) (by omega) ?_
            exact rfl
            apply exP.mk
            iterate 2 refine Z ?_
            refine jnm (by omega) (by simp; omega) ?_
            exact rfl
            iterate 2 refine Z ?_
            refine gm (by simp; omega) ?_; refine Z ?_; refine eset' ?_; refine Z ?_; refine nw (by omega) (by omega) ?_; rotate_left; refine hR2 ((j - 1, swp Y j)) _ _ ?_ ?_; rotate_left; refine weak.mk [] [0] rfl rfl ?_ ?_
            repeat' first | exact trivial | exact rfl | exact Iff.rfl | assumption | exact pureI | exact (show _ = _ by omega) | exact (show _ ≤ _ by omega) | exact (show _ < _ by omega) | exact (show ¬ _ by omega) | refine And.intro ?_ ?_
            rotate_right
            · refine ⟨⟨by omega, (swp_perm hj0 (by omega)).trans hq, sortI_swp hj0 hj (by omega) ht (by rw [getI (by omega), getI (by omega)]; exact hlt)⟩, by show j - 1 < j; omega⟩
            · exact swp_row hj0 (by omega)
          · refine drawP.mk 15 (Z (Z (Z (Z ?_))))
            apply exP.mk
            exact rfl
            apply exP.mk
            exact rfl
            apply exP.mk
            exact rfl
            apply exP.mk
            exact rfl
            refine tY oky ?_
            apply exP.mk
            exact rfl
            apply exP.mk
            exact rfl
            apply exP.mk
            iterate 2 refine Z ?_
            refine jkm (by omega) ?_
            exact rfl
            apply exP.mk
            refine gm (by omega) ?_
            exact rfl
            apply exP.mk
            exact rfl
            apply exP.mk
            exact rfl
            apply exP.mk
            refine nw (by omega) (by omega) ?_
            exact rfl
            apply exP.mk
            iterate 2 refine Z ?_
            refine jmm (by omega) (by omega) ?_
            exact rfl
            apply exP.mk
            refine gm (by omega) ?_
            exact rfl
            apply exP.mk
            refine callP.mk _ _ _ (cmpLess_c _ _) trivial nofun trivial ?_
            exact rfl
            refine tN okn ?_; refine nw (by omega) (by omega) ?_; rotate_left; refine hR ((i + 1, Y)) _ _ ?_ ?_; rotate_left; refine weak.mk [] [0] rfl rfl ?_ ?_
            repeat' first | exact trivial | exact rfl | exact Iff.rfl | assumption | exact pureI | exact (show _ = _ by omega) | exact (show _ ≤ _ by omega) | exact (show _ < _ by omega) | exact (show ¬ _ by omega) | refine And.intro ?_ ?_
            rotate_right; refine ⟨⟨by omega, hq, .inl (by omega), sortI_end ht (.inr (by rw [getI (by omega), getI (by omega)]; omega))⟩, by show l.length - (i + 1) < l.length - i; omega⟩
        · refine drawP.mk 15 (Z (Z (Z (Z ?_))))
          apply exP.mk
          exact rfl
          apply exP.mk
          exact rfl
          apply exP.mk
          exact rfl
          apply exP.mk
          exact rfl
          refine tN okn ?_; refine nw (by omega) (by omega) ?_; rotate_left; refine hR ((i + 1, Y)) _ _ ?_ ?_; rotate_left; refine weak.mk [] [0] rfl rfl ?_ ?_
          repeat' first | exact trivial | exact rfl | exact Iff.rfl | assumption | exact pureI | exact (show _ = _ by omega) | exact (show _ ≤ _ by omega) | exact (show _ < _ by omega) | exact (show ¬ _ by omega) | refine And.intro ?_ ?_
          rotate_right; refine ⟨⟨by omega, hq, .inl (by omega), sortI_end ht (.inl (by omega))⟩, by show l.length - (i + 1) < l.length - i; omega⟩
    · refine tN okn ?_
      rotate_left; refine doneE.mk (X) ?_ ?_
      rotate_left
      focus
        refine doneV.mk [] [0] rfl rfl ?_ ?_ ?_
        repeat' first | exact trivial | exact rfl | exact Iff.rfl | assumption | exact pureI | exact (show _ = _ by omega) | exact (show _ ≤ _ by omega) | exact (show _ < _ by omega) | exact (show ¬ _ by omega) | refine And.intro ?_ ?_
      rotate_right; refine ⟨hp, fun p q h1 h2 => hs p q h1 (by omega)⟩
theorem pdqsort_c (l : List Int) (hl : l.length ≤ 12) (n m : Int) (hn : n = l.length) : CE 117 [.loc 0, i64 0, i64 n, i64 m] [row l] (fun M : List Int => M.Perm l ∧ sortU M M.length) (fun _ => .tuple []) (fun M => [row M]) false := by
  subst hn
  refine mkE false false Try.func117 rfl ?_; refine And.intro nofun ?_; rotate_left; refine loop_up (β := Nat) (fun k => [(1, i64 0), (2, i64 l.length), (3, i64 m), (8, .tt), (9, .tt)]) (fun k => []) [] (fun k => True) (fun k => k) (0) ?_ ?_ ?_
  · trivial
  · refine weak.mk [] [0] rfl rfl ?_ ?_
    repeat' first | exact trivial | exact rfl | exact Iff.rfl | assumption | exact pureI | exact (show _ = _ by omega) | exact (show _ ≤ _ by omega) | exact (show _ < _ by omega) | exact (show ¬ _ by omega) | refine And.intro ?_ ?_
  · rintro k _ R hR
    refine nw (by omega) (by omega) ?_; refine tY oky ?_; refine callW.mkE [] [0] 1 _ _ _ _ (insertionSort_c _ oka _ oka) rfl rfl trivial nofun (fun _ _ => ?_); rotate_left
    rename_i M hM
    refine doneE.mk (M) ?_ ?_; rotate_left
    focus
      refine doneV.mk [] [0] rfl rfl ?_ ?_ ?_
      repeat' first | exact trivial | exact rfl | exact Iff.rfl | assumption | exact pureI | exact (show _ = _ by omega) | exact (show _ ≤ _ by omega) | exact (show _ < _ by omega) | exact (show ¬ _ by omega) | refine And.intro ?_ ?_
    rotate_right
    exact hM
theorem Sort_c (l : List Int) (hl : l.length ≤ 12) : CE 103 [.loc 0] [row l] (fun M : List Int => M.Perm l ∧ sortU M M.length) (fun _ => .tuple []) (fun M => [row M]) false := by
  refine mkE false false Try.func103 rfl ?_; refine And.intro nofun ?_; refine lm ?_; refine nr ?_; rotate_left
  rw [wrap_u64 (z := (l.length : Int)) (by omega) (by omega)]
  refine callW.mkE [] [] 1 _ _ _ _ (Len_c _ oka oka) rfl rfl trivial nofun (fun _ _ => ?_); refine callW.mkE [] [0] 1 _ _ _ _ (pdqsort_c _ oka _ _ oka) rfl rfl trivial nofun (fun _ _ => ?_); rotate_left
  rename_i e h M hM
  refine doneE.mk (M) ?_ ?_; rotate_left
  focus
    refine doneV.mk [] [0] rfl rfl ?_ ?_ ?_
    repeat' first | exact trivial | exact rfl | exact Iff.rfl | assumption | exact pureI | exact (show _ = _ by omega) | exact (show _ ≤ _ by omega) | exact (show _ < _ by omega) | exact (show ¬ _ by omega) | refine And.intro ?_ ?_
  rotate_right
  exact hM
theorem putNew_c (n : Int) (A : List Int) (x : Int) (hx : 0 ≤ x ∧ x < n) (hA : (srt n A).length ≤ 1000) (hn : x ∉ srt n A) : C 101 [ints (srt n A), i64 x] [] (.loc 0) [row (srt n (A ++ [x]))] false := by
  obtain ⟨S, hS⟩ : ∃ S, srt n A = S := ⟨_, rfl⟩
  have hp := srt_pw n A
  rw [hS] at hA hn hp ⊢
  have hS1 : S.length ≤ 1000 := hA
  refine mkC false false Try.func101 rfl ?_; refine And.intro nofun ?_; rotate_left; refine loop_up (β := Nat) (fun k => [(5, i64 k)]) (fun k => []) [] (fun k => k ≤ S.length ∧ ∀ y ∈ S.take k, y < x) (fun k => S.length - k) (0) ?_ ?_ ?_
  · exact ⟨Nat.zero_le _, fun y hy => by simp at hy⟩
  · refine weak.mk [] [] rfl rfl ?_ ?_
    repeat' first | exact trivial | exact rfl | exact Iff.rfl | assumption | exact pureI | exact (show _ = _ by omega) | exact (show _ ≤ _ by omega) | exact (show _ < _ by omega) | exact (show ¬ _ by omega) | refine And.intro ?_ ?_
  · rintro k ⟨hk, hi⟩ R hR
    by_cases hkl : k < S.length
    · by_cases hlt : S[k] < x
      · refine lm ?_
        refine tY oky ?_; iterate 2 refine Z ?_
        refine jkm (by omega) ?_; refine gm (by omega) ?_; refine tY oky ?_; refine nw (by omega) (by omega) ?_; rotate_left; refine hR (k + 1) _ _ ?_ ?_; rotate_left; refine weak.mk [] [] rfl rfl ?_ ?_
        repeat' first | exact trivial | exact rfl | exact Iff.rfl | assumption | exact pureI | exact (show _ = _ by omega) | exact (show _ ≤ _ by omega) | exact (show _ < _ by omega) | exact (show ¬ _ by omega) | refine And.intro ?_ ?_
        rotate_right; refine ⟨⟨by omega, fun y hy => ?_⟩, by omega⟩
        rw [take_snoc hkl] at hy
        rcases List.mem_append.1 hy with hy | hy
        · exact hi y hy
        · rw [List.mem_singleton.1 hy]; exact hlt
      · have hne : S[k] ≠ x := fun e => hn (e ▸ List.getElem_mem hkl)
        have hps := put_srt (n := n) (x := x) (A := A) (k := k) hx (by rw [hS]; exact hk) (by rw [hS]; exact hi) (by
          rw [hS]
          intro y hy
          rw [List.drop_eq_getElem_cons hkl] at hy
          rcases List.mem_cons.1 hy with hy | hy
          · omega
          · rw [← List.take_append_drop (k + 1) S, List.pairwise_append] at hp
            have := hp.2.2 S[k] (by rw [take_snoc hkl]; exact List.mem_append.2 (.inr (List.mem_singleton.2 rfl))) y hy
            omega)
        rw [hS] at hps
        refine lm ?_; refine tY oky ?_; iterate 2 refine Z ?_
        refine jkm (by omega) ?_; refine gm (by omega) ?_; refine tN okn ?_; refine lm ?_; refine tY oky ?_; iterate 2 refine Z ?_
        refine jkm (by omega) ?_; refine gm (by omega) ?_; refine tN okn ?_; refine drawP.mkS (Z (Z ?_)); refine Z ?_
        apply exP.mk
        exact rfl
        apply exP.mk
        exact rfl
        apply exP.mk
        iterate 2 refine Z ?_
        refine jkm1 (by omega) ?_; refine esub ?_
        exact rfl
        apply exP.mk
        exact rfl
        apply exP.mk
        exact rfl
        apply exP.mk
        exact rfl
        apply exP.mk
        iterate 2 refine Z ?_
        refine jkm1 (by omega) ?_; refine esub ?_
        exact rfl
        refine BothP.mk ?_ ?_; iterate 5 refine Z ?_
        refine And.intro ?_ ?_; iterate 2 refine Z ?_
        refine jkm1 (by omega) ?_; refine esub ?_
        exact rfl
        iterate 3 refine Z ?_
        refine And.intro ?_ ?_; iterate 2 refine Z ?_
        refine jkm1 (by omega) ?_; refine esub ?_
        exact rfl
        refine BothP.mk ?_ ?_; iterate 4 refine Z ?_
        refine leP.mk (by first | (simp [big]; omega) | (simp [big]; done)) ?_; iterate 4 refine Z ?_
        refine And.intro ?_ ?_; iterate 2 refine Z ?_
        refine jkm1 (by omega) ?_; refine esub ?_
        exact rfl
        iterate 8 refine Z ?_
        refine And.intro ?_ ?_; iterate 2 refine Z ?_
        refine jkm1 (by omega) ?_; refine esub ?_
        exact rfl
        iterate 5 refine Z ?_
        refine leP.mk (by first | (simp [big]; omega) | (simp [big]; done)) ?_; refine ea ?_; iterate 3 refine Z ?_
        refine And.intro ?_ ?_; iterate 2 refine Z ?_
        refine jkm1 (by omega) ?_; refine esub ?_
        exact rfl
        iterate 5 refine Z ?_
        refine leP.mk (by first | (simp [big]; omega) | (simp [big]; done)) ?_; refine eap ?_; refine Z ?_
        apply exP.mk
        exact rfl
        rotate_left; iterate 8 refine Z ?_
        refine And.intro ?_ ?_; iterate 2 refine Z ?_
        refine jkm1 (by omega) ?_; refine esub ?_
        exact rfl
        iterate 2 refine Z ?_
        refine And.intro ?_ ?_; iterate 2 refine Z ?_
        refine jkm1 (by omega) ?_; refine esub ?_
        exact rfl
        iterate 4 refine Z ?_
        refine leP.mk (by first | (simp [big]; omega) | (simp [big]; done)) ?_; iterate 3 refine Z ?_
        refine And.intro ?_ ?_; iterate 2 refine Z ?_
        refine jkm1 (by omega) ?_; refine esub ?_
        exact rfl
        iterate 5 refine Z ?_
        refine leP.mk (by first | (simp [big]; omega) | (simp [big]; done)) ?_; refine ea ?_; iterate 3 refine Z ?_
        refine And.intro ?_ ?_; iterate 2 refine Z ?_
        refine jkm1 (by omega) ?_; refine esub ?_
        exact rfl
        iterate 5 refine Z ?_
        refine leP.mk (by first | (simp [big]; omega) | (simp [big]; done)) ?_; refine eap ?_; refine Z ?_
        apply exP.mk
        exact rfl
        rotate_left; iterate 8 refine Z ?_
        refine And.intro ?_ ?_; iterate 2 refine Z ?_
        refine jkm1 (by omega) ?_; refine esub ?_
        exact rfl
        iterate 2 refine Z ?_
        refine And.intro ?_ ?_; iterate 2 refine Z ?_
        refine jkm1 (by omega) ?_; refine esub ?_
        exact rfl
        iterate 5 refine Z ?_
        refine And.intro ?_ ?_; iterate 2 refine Z ?_
        refine jkm1 (by omega) ?_; refine esub ?_
        exact rfl
        iterate 2 refine Z ?_
        refine And.intro ?_ ?_; iterate 2 refine Z ?_
        refine jkm1 (by omega) ?_; refine esub ?_
        exact rfl
        iterate 4 refine Z ?_
        refine leP.mk (by first | (simp [big]; omega) | (simp [big]; done)) ?_; iterate 3 refine Z ?_
        refine And.intro ?_ ?_; iterate 2 refine Z ?_
        refine jkm1 (by omega) ?_; refine esub ?_
        exact rfl
        iterate 5 refine Z ?_
        refine leP.mk (by first | (simp [big]; omega) | (simp [big]; done)) ?_; refine ea ?_; iterate 3 refine Z ?_
        refine And.intro ?_ ?_; iterate 2 refine Z ?_
        refine jkm1 (by omega) ?_; refine esub ?_
        exact rfl
        iterate 5 refine Z ?_
        refine leP.mk (by first | (simp [big]; omega) | (simp [big]; done)) ?_; refine eap ?_; refine Z ?_
        apply exP.mk
        exact rfl
        rotate_left
        · refine doneV.mk [] [3] rfl rfl ?_ ?_ ?_
          repeat' first | exact trivial | exact rfl | exact Iff.rfl | assumption | exact pureI | exact (show _ = _ by omega) | exact (show _ ≤ _ by omega) | exact (show _ < _ by omega) | exact (show ¬ _ by omega) | refine And.intro ?_ ?_
          exact map_congr (put_e hps)
        · refine doneV.mk [] [3] rfl rfl ?_ ?_ ?_
          repeat' first | exact trivial | exact rfl | exact Iff.rfl | assumption | exact pureI | exact (show _ = _ by omega) | exact (show _ ≤ _ by omega) | exact (show _ < _ by omega) | exact (show ¬ _ by omega) | refine And.intro ?_ ?_
          exact map_congr (put_e hps)
        · refine doneV.mk [] [3] rfl rfl ?_ ?_ ?_
          repeat' first | exact trivial | exact rfl | exact Iff.rfl | assumption | exact pureI | exact (show _ = _ by omega) | exact (show _ ≤ _ by omega) | exact (show _ < _ by omega) | exact (show ¬ _ by omega) | refine And.intro ?_ ?_
          exact map_congr (put_e hps)
    · have hps := put_srt (n := n) (x := x) (A := A) (k := k) hx (by rw [hS]; exact hk) (by rw [hS]; exact hi) (by
        rw [hS, List.drop_of_length_le (by omega)]
        intro y hy
        cases hy)
      rw [hS] at hps
      refine lm ?_; refine tN okn ?_; refine lm ?_; refine tN okn ?_; refine drawP.mkS (Z (Z ?_)); refine Z ?_
      apply exP.mk
      exact rfl
      apply exP.mk
      exact rfl
      apply exP.mk
      iterate 2 refine Z ?_
      refine jkm1 (by omega) ?_; refine esub ?_
      exact rfl
      apply exP.mk
      exact rfl
      apply exP.mk
      exact rfl
      apply exP.mk
      exact rfl
      apply exP.mk
      iterate 2 refine Z ?_
      refine jkm1 (by omega) ?_; refine esub ?_
      exact rfl
      refine BothP.mk ?_ ?_; iterate 5 refine Z ?_
      refine And.intro ?_ ?_; iterate 2 refine Z ?_
      refine jkm1 (by omega) ?_; refine esub ?_
      exact rfl
      iterate 3 refine Z ?_
      refine And.intro ?_ ?_; iterate 2 refine Z ?_
      refine jkm1 (by omega) ?_; refine esub ?_
      exact rfl
      refine BothP.mk ?_ ?_; iterate 4 refine Z ?_
      refine leP.mk (by first | (simp [big]; omega) | (simp [big]; done)) ?_; iterate 4 refine Z ?_
      refine And.intro ?_ ?_; iterate 2 refine Z ?_
      refine jkm1 (by omega) ?_; refine esub ?_
      exact rfl
      iterate 8 refine Z ?_
      refine And.intro ?_ ?_; iterate 2 refine Z ?_
      refine jkm1 (by omega) ?_; refine esub ?_
      exact rfl
      iterate 5 refine Z ?_
      refine leP.mk (by first | (simp [big]; omega) | (simp [big]; done)) ?_; refine ea ?_; iterate 3 refine Z ?_
      refine And.intro ?_ ?_; iterate 2 refine Z ?_
      refine jkm1 (by omega) ?_; refine esub ?_
      exact rfl
      iterate 5 refine Z ?_
      refine leP.mk (by first | (simp [big]; omega) | (simp [big]; done)) ?_; refine eap ?_; refine Z ?_
      apply exP.mk
      exact rfl
      rotate_left; iterate 8 refine Z ?_
      refine And.intro ?_ ?_; iterate 2 refine Z ?_
      refine jkm1 (by omega) ?_; refine esub ?_
      exact rfl
      iterate 2 refine Z ?_
      refine And.intro ?_ ?_; iterate 2 refine Z ?_
      refine jkm1 (by omega) ?_; refine esub ?_
      exact rfl
      iterate 4 refine Z ?_
      refine leP.mk (by first | (simp [big]; omega) | (simp [big]; done)) ?_; iterate 3 refine Z ?_
      refine And.intro ?_ ?_; iterate 2 refine Z ?_
      refine jkm1 (by omega) ?_; refine esub ?_
      exact rfl
      iterate 5 refine Z ?_
      refine leP.mk (by first | (simp [big]; omega) | (simp [big]; done)) ?_; refine ea ?_; iterate 3 refine Z ?_
      refine And.intro ?_ ?_; iterate 2 refine Z ?_
      refine jkm1 (by omega) ?_; refine esub ?_
      exact rfl
      iterate 5 refine Z ?_
      refine leP.mk (by first | (simp [big]; omega) | (simp [big]; done)) ?_; refine eap ?_; refine Z ?_
      apply exP.mk
      exact rfl
      rotate_left; iterate 8 refine Z ?_
      refine And.intro ?_ ?_; iterate 2 refine Z ?_
      refine jkm1 (by omega) ?_; refine esub ?_
      exact rfl
      iterate 2 refine Z ?_
      refine And.intro ?_ ?_; iterate 2 refine Z ?_
      refine jkm1 (by omega) ?_; refine esub ?_
      exact rfl
      iterate 5 refine Z ?_
      refine And.intro ?_ ?_; iterate 2 refine Z ?_
      refine jkm1 (by omega) ?_; refine esub ?_
      exact rfl
      iterate 2 refine Z ?_
      refine And.intro ?_ ?_; iterate 2 refine Z ?_
      refine jkm1 (by omega) ?_; refine esub ?_
      exact rfl
      iterate 4 refine Z ?_
      refine leP.mk (by first | (simp [big]; omega) | (simp [big]; done)) ?_; iterate 3 refine Z ?_
      refine And.intro ?_ ?_; iterate 2 refine Z ?_
      refine jkm1 (by omega) ?_; refine esub ?_
      exact rfl
      iterate 5 refine Z ?_
      refine leP.mk (by first | (simp [big]; omega) | (simp [big]; done)) ?_; refine ea ?_; iterate 3 refine Z ?_
      refine And.intro ?_ ?_; iterate 2 refine Z ?_
      refine jkm1 (by omega) ?_; refine esub ?_
      exact rfl
      iterate 5 refine Z ?_
      refine leP.mk (by first | (simp [big]; omega) | (simp [big]; done)) ?_; refine eap ?_; refine Z ?_
      apply exP.mk
      exact rfl
      rotate_left
      · refine doneV.mk [] [3] rfl rfl ?_ ?_ ?_
        repeat' first | exact trivial | exact rfl | exact Iff.rfl | assumption | exact pureI | exact (show _ = _ by omega) | exact (show _ ≤ _ by omega) | exact (show _ < _ by omega) | exact (show ¬ _ by omega) | refine And.intro ?_ ?_
        exact map_congr (put_e hps)
      · refine doneV.mk [] [3] rfl rfl ?_ ?_ ?_
        repeat' first | exact trivial | exact rfl | exact Iff.rfl | assumption | exact pureI | exact (show _ = _ by omega) | exact (show _ ≤ _ by omega) | exact (show _ < _ by omega) | exact (show ¬ _ by omega) | refine And.intro ?_ ?_
        exact map_congr (put_e hps)
      · refine doneV.mk [] [3] rfl rfl ?_ ?_ ?_
        repeat' first | exact trivial | exact rfl | exact Iff.rfl | assumption | exact pureI | exact (show _ = _ by omega) | exact (show _ ≤ _ by omega) | exact (show _ < _ by omega) | exact (show ¬ _ by omega) | refine And.intro ?_ ?_
        exact map_congr (put_e hps)
end Sx
