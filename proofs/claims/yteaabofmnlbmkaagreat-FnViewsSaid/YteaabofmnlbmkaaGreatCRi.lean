/- Contracts: gaps to the left. -/
import Derived.Test.YteaabofmnlbmkaaGreatSyC
import Derived.Test.YteaabofmnlbmkaaGreatCRh
import Derived.Test.YteaabofmnlbmkaaGreatMxA
set_option linter.all false
namespace Sx
open Go Go.Proofs
set_option maxRecDepth 100000
set_option maxHeartbeats 8000000
set_option linter.unusedSimpArgs false
set_option linter.unusedSectionVars false
variable [Glb]
theorem tmod_bd {a b : Int} (hb : 0 < b) : -1 * b < a.tmod b ∧ a.tmod b < b := by
  rcases Int.lt_or_le a 0 with h | h
  · have h1 := Int.emod_nonneg (-a) (show b ≠ 0 by omega)
    have h2 := Int.emod_lt_of_pos (-a) hb
    rw [show a = -(-a) by omega, Int.neg_tmod, Int.tmod_eq_emod_of_nonneg (by omega)]
    omega
  · have h1 := Int.emod_nonneg a (show b ≠ 0 by omega)
    have h2 := Int.emod_lt_of_pos a hb
    rw [Int.tmod_eq_emod_of_nonneg h]
    omega
theorem left_e {a m : Int} (h : 0 < m) : ((a % m + m) % m).toNat = (a % m).toNat := by rw [Int.add_emod_right, Int.emod_emod]
theorem left_t {a m : Int} (h : 0 < m) : ((a.tmod m + m) % m).toNat = (a % m).toNat := by
  rw [Int.add_emod_right, Int.tmod_def, Int.sub_mul_emod_self_left]
theorem left_1 {i k m : Nat} (hk : k < m) (hi : i < m) : (((i : Int) + (k : Int) * -1) % (m : Int)).toNat = (i + (m - 1 - k) + 1) % m := by
  have e : ((i : Int) + (k : Int) * -1) % (m : Int) = (((i + (m - 1 - k) + 1 : Nat) : Int)) % m := by
    rw [show ((i + (m - 1 - k) + 1 : Nat) : Int) = (i : Int) + (k : Int) * -1 + m by omega, Int.add_emod_right]
  rw [e, ← Int.natCast_emod, Int.toNat_natCast]
theorem left_2 {i k m : Nat} (hk : k < m) (hi : i < m) : (((i : Int) + ((k : Int) + 1) * -1) % (m : Int)).toNat = (i + (m - 1 - k)) % m := by
  have e : ((i : Int) + ((k : Int) + 1) * -1) % (m : Int) = (((i + (m - 1 - k) : Nat) : Int)) % m := by
    rw [show ((i + (m - 1 - k) : Nat) : Int) = (i : Int) + ((k : Int) + 1) * -1 + m by omega, Int.add_emod_right]
  rw [e, ← Int.natCast_emod, Int.toNat_natCast]
theorem gapsLeft_c (n : Int) (l : List Int) (hc : crowd n l) (i : Nat) (hi : i < l.length) : C 59 [.agg [i64 n, ints l], i64 i, i64 (-1)] [] (.loc 0) [row (gapsR n l i).reverse] false := by
  have hn := hc.1.1
  have hl := hc.1.2
  refine mkC false false Tryz.func59 rfl ?_; refine And.intro nofun ?_; iterate 2 refine Z ?_
  refine lm ?_; iterate 2 refine Z ?_
  rotate_left; refine loop_up (β := Nat) (fun k => [(8, .loc 1), (18, i64 k)]) (fun k => [(1, row (gapsL n l i k))]) [1] (fun k => k ≤ l.length) (fun k => l.length - k) (0) ?_ ?_ ?_
  · exact Nat.zero_le _
  · refine weak.mk [1] [0, 1] rfl rfl ?_ ?_
    repeat' first | exact trivial | exact rfl | exact Iff.rfl | assumption | exact pureI | exact (show _ = _ by omega) | exact (show _ ≤ _ by omega) | exact (show _ < _ by omega) | exact (show ¬ _ by omega) | refine And.intro ?_ ?_
  · rintro k hk R hR
    have hlk : (gapsL n l i k).length = k := by simp [gapsL]
    have hmp : (0 : Int) < (l.length : Int) := by omega
    have t1 : -1 * (l.length : Int) < ((i : Int) + (k : Int) * -1).tmod l.length ∧ ((i : Int) + (k : Int) * -1).tmod l.length < l.length := tmod_bd hmp
    have q1 := Int.emod_nonneg (((i : Int) + (k : Int) * -1) % l.length + l.length) (show (l.length : Int) ≠ 0 by omega)
    have q2 := Int.emod_lt_of_pos (((i : Int) + (k : Int) * -1) % l.length + l.length) hmp
    have q3 := Int.emod_nonneg (((i : Int) + (k : Int) * -1).tmod l.length + l.length) (show (l.length : Int) ≠ 0 by omega)
    have q4 := Int.emod_lt_of_pos (((i : Int) + (k : Int) * -1).tmod l.length + l.length) hmp
    have q5 := Int.emod_nonneg ((i : Int) + (k : Int) * -1) (show (l.length : Int) ≠ 0 by omega)
    have q6 := Int.emod_lt_of_pos ((i : Int) + (k : Int) * -1) hmp
    by_cases hkl : k < l.length
    · have p2 : -1 * (l.length : Int) ≤ (i : Int) + ((k : Int) + 1) * -1 ∧ (i : Int) + ((k : Int) + 1) * -1 < l.length := by omega
      have r1 := Int.emod_nonneg (((i : Int) + ((k : Int) + 1) * -1) % l.length + l.length) (show (l.length : Int) ≠ 0 by omega)
      have r2 := Int.emod_lt_of_pos (((i : Int) + ((k : Int) + 1) * -1) % l.length + l.length) hmp
      have r3 := Int.emod_nonneg (((i : Int) + ((k : Int) + 1) * -1).tmod l.length + l.length) (show (l.length : Int) ≠ 0 by omega)
      have r4 := Int.emod_lt_of_pos (((i : Int) + ((k : Int) + 1) * -1).tmod l.length + l.length) hmp
      have r5 := Int.emod_nonneg ((i : Int) + ((k : Int) + 1) * -1) (show (l.length : Int) ≠ 0 by omega)
      have r6 := Int.emod_lt_of_pos ((i : Int) + ((k : Int) + 1) * -1) hmp
      have t2 : -1 * (l.length : Int) < ((i : Int) + ((k : Int) + 1) * -1).tmod l.length ∧ ((i : Int) + ((k : Int) + 1) * -1).tmod l.length < l.length := tmod_bd hmp
      obtain ⟨A, hA⟩ : ∃ A, l.getD ((i + (l.length - 1 - k)) % l.length) 0 = A := ⟨_, rfl⟩
      obtain ⟨B, hB⟩ : ∃ B, l.getD ((i + (l.length - 1 - k) + 1) % l.length) 0 = B := ⟨_, rfl⟩
      have m2 := mod_lt (a := i + (l.length - 1 - k)) (m := l.length) (by omega)
      have m1 := mod_lt (a := i + (l.length - 1 - k) + 1) (m := l.length) (by omega)
      have g1 : gapAt n l i (l.length - 1 - k) = gp n A B := by unfold gapAt; rw [hA, hB]
      by_cases c1 : k + 1 ≤ i
      · have z1 : ((((i : Int) + (k : Int) * -1) % l.length + l.length) % l.length).toNat = (i + (l.length - 1 - k) + 1) % l.length := (left_e hmp).trans (left_1 hkl hi)
        have z2 : ((((i : Int) + ((k : Int) + 1) * -1) % l.length + l.length) % l.length).toNat = (i + (l.length - 1 - k)) % l.length := (left_e hmp).trans (left_2 hkl hi)
        have f1 : l[((((i : Int) + (k : Int) * -1) % l.length + l.length) % l.length).toNat]'(by rw [z1]; exact m1) = B := by
          have := getI (l := l) (i := ((((i : Int) + (k : Int) * -1) % l.length + l.length) % l.length).toNat) (by rw [z1]; exact m1)
          rw [← this, z1, hB]
        have f2 : l[((((i : Int) + ((k : Int) + 1) * -1) % l.length + l.length) % l.length).toNat]'(by rw [z2]; exact m2) = A := by
          have := getI (l := l) (i := ((((i : Int) + ((k : Int) + 1) * -1) % l.length + l.length) % l.length).toNat) (by rw [z2]; exact m2)
          rw [← this, z2, hA]
        have x1 : 0 ≤ B ∧ B < n := by rw [← f1]; exact hc.2.1 _ (List.getElem_mem _)
        have x2 : 0 ≤ A ∧ A < n := by rw [← f2]; exact hc.2.1 _ (List.getElem_mem _)
        by_cases h0 : (B - A + n) % n = 0
        · have h1 : ((A - B) * -1 + n) % n = 0 := by rw [show (A - B) * -1 = B - A by omega]; exact h0
          refine tY oky ?_; refine drawP.mkS (Z (Z ?_)); refine Z ?_
          apply exP.mk
          refine Z ?_
          exact rfl
          apply exP.mk
          exact rfl
          apply exP.mk
          exact rfl
          apply exP.mk
          exact rfl
          apply exP.mk
          exact rfl
          apply exP.mk
          refine nw (by omega) (by omega) ?_
          exact rfl
          apply exP.mk
          refine nw (by omega) (by omega) ?_
          exact rfl
          apply exP.mk
          exact rfl
          apply exP.mk
          refine And.intro (by omega) ?_; refine ntm (by omega) ?_
          exact rfl
          apply exP.mk
          exact rfl
          apply exP.mk
          refine nw (by omega) (by omega) ?_
          exact rfl
          apply exP.mk
          exact rfl
          apply exP.mk
          refine And.intro (by omega) ?_; refine ntm (by omega) ?_
          exact rfl
          apply exP.mk
          iterate 2 refine Z ?_
          refine jnm (by omega) (by omega) ?_
          exact rfl
          apply exP.mk
          refine gmv (by omega) f1 ?_
          exact rfl
          apply exP.mk
          exact rfl
          refine drawP.mkS (Z (Z ?_)); refine Z ?_
          apply exP.mk
          refine Z ?_
          exact rfl
          apply exP.mk
          exact rfl
          apply exP.mk
          exact rfl
          apply exP.mk
          exact rfl
          apply exP.mk
          refine nw (by omega) (by omega) ?_
          exact rfl
          apply exP.mk
          exact rfl
          apply exP.mk
          refine nw (by omega) (by omega) ?_
          exact rfl
          apply exP.mk
          refine nw (by omega) (by omega) ?_
          exact rfl
          apply exP.mk
          exact rfl
          apply exP.mk
          refine And.intro (by omega) ?_; refine ntm (by omega) ?_
          exact rfl
          apply exP.mk
          exact rfl
          apply exP.mk
          refine nw (by omega) (by omega) ?_
          exact rfl
          apply exP.mk
          exact rfl
          apply exP.mk
          refine And.intro (by omega) ?_; refine ntm (by omega) ?_
          exact rfl
          apply exP.mk
          iterate 2 refine Z ?_
          refine jnm (by omega) (by omega) ?_
          exact rfl
          apply exP.mk
          refine gmv (by omega) f2 ?_
          exact rfl
          apply exP.mk
          exact rfl
          iterate 2 refine nw (by omega) (by omega) ?_
          refine Z ?_; refine nw (by omega) (by omega) ?_; refine Z ?_; refine And.intro (by omega) ?_; refine ntm (by omega) ?_; refine tY oky ?_; iterate 11 refine Z ?_
          refine lem1 (by omega) ?_; refine ea ?_; refine nw (by omega) (by omega) ?_; rotate_left; refine hR (k + 1) _ _ ?_ ?_; rotate_left; refine weak.mk [] [0, 3] rfl rfl ?_ ?_
          repeat' first | exact trivial | exact rfl | exact Iff.rfl | assumption | exact pureI | exact (show _ = _ by omega) | exact (show _ ≤ _ by omega) | exact (show _ < _ by omega) | exact (show ¬ _ by omega) | refine And.intro ?_ ?_
          rotate_right
          · exact ⟨by omega, by omega⟩
          · exact map_congr (by rw [gapsL_succ, g1, gp_0 h0])
        · have h1 : ¬ ((A - B) * -1 + n) % n = 0 := by rw [show (A - B) * -1 = B - A by omega]; exact h0
          refine tY oky ?_; refine drawP.mkS (Z (Z ?_)); refine Z ?_
          apply exP.mk
          refine Z ?_
          exact rfl
          apply exP.mk
          exact rfl
          apply exP.mk
          exact rfl
          apply exP.mk
          exact rfl
          apply exP.mk
          exact rfl
          apply exP.mk
          refine nw (by omega) (by omega) ?_
          exact rfl
          apply exP.mk
          refine nw (by omega) (by omega) ?_
          exact rfl
          apply exP.mk
          exact rfl
          apply exP.mk
          refine And.intro (by omega) ?_; refine ntm (by omega) ?_
          exact rfl
          apply exP.mk
          exact rfl
          apply exP.mk
          refine nw (by omega) (by omega) ?_
          exact rfl
          apply exP.mk
          exact rfl
          apply exP.mk
          refine And.intro (by omega) ?_; refine ntm (by omega) ?_
          exact rfl
          apply exP.mk
          iterate 2 refine Z ?_
          refine jnm (by omega) (by omega) ?_
          exact rfl
          apply exP.mk
          refine gmv (by omega) f1 ?_
          exact rfl
          apply exP.mk
          exact rfl
          refine drawP.mkS (Z (Z ?_)); refine Z ?_
          apply exP.mk
          refine Z ?_
          exact rfl
          apply exP.mk
          exact rfl
          apply exP.mk
          exact rfl
          apply exP.mk
          exact rfl
          apply exP.mk
          refine nw (by omega) (by omega) ?_
          exact rfl
          apply exP.mk
          exact rfl
          apply exP.mk
          refine nw (by omega) (by omega) ?_
          exact rfl
          apply exP.mk
          refine nw (by omega) (by omega) ?_
          exact rfl
          apply exP.mk
          exact rfl
          apply exP.mk
          refine And.intro (by omega) ?_; refine ntm (by omega) ?_
          exact rfl
          apply exP.mk
          exact rfl
          apply exP.mk
          refine nw (by omega) (by omega) ?_
          exact rfl
          apply exP.mk
          exact rfl
          apply exP.mk
          refine And.intro (by omega) ?_; refine ntm (by omega) ?_
          exact rfl
          apply exP.mk
          iterate 2 refine Z ?_
          refine jnm (by omega) (by omega) ?_
          exact rfl
          apply exP.mk
          refine gmv (by omega) f2 ?_
          exact rfl
          apply exP.mk
          exact rfl
          iterate 2 refine nw (by omega) (by omega) ?_
          refine Z ?_; refine nw (by omega) (by omega) ?_; refine Z ?_; refine And.intro (by omega) ?_; refine ntm (by omega) ?_; refine tN okn ?_; iterate 10 refine Z ?_
          refine lem1 (by omega) ?_; refine ea ?_; refine nw (by omega) (by omega) ?_; rotate_left; refine hR (k + 1) _ _ ?_ ?_; rotate_left; refine weak.mk [] [0, 3] rfl rfl ?_ ?_
          repeat' first | exact trivial | exact rfl | exact Iff.rfl | assumption | exact pureI | exact (show _ = _ by omega) | exact (show _ ≤ _ by omega) | exact (show _ < _ by omega) | exact (show ¬ _ by omega) | refine And.intro ?_ ?_
          rotate_right
          · exact ⟨by omega, by omega⟩
          · exact map_congr (by rw [gapsL_succ, g1, gp_1 h0, show B - A = (A - B) * -1 by omega])
      · by_cases c2 : k ≤ i
        · have z1 : ((((i : Int) + (k : Int) * -1) % l.length + l.length) % l.length).toNat = (i + (l.length - 1 - k) + 1) % l.length := (left_e hmp).trans (left_1 hkl hi)
          have z2 : ((((i : Int) + ((k : Int) + 1) * -1).tmod l.length + l.length) % l.length).toNat = (i + (l.length - 1 - k)) % l.length := (left_t hmp).trans (left_2 hkl hi)
          have f1 : l[((((i : Int) + (k : Int) * -1) % l.length + l.length) % l.length).toNat]'(by rw [z1]; exact m1) = B := by
            have := getI (l := l) (i := ((((i : Int) + (k : Int) * -1) % l.length + l.length) % l.length).toNat) (by rw [z1]; exact m1)
            rw [← this, z1, hB]
          have f2 : l[((((i : Int) + ((k : Int) + 1) * -1).tmod l.length + l.length) % l.length).toNat]'(by rw [z2]; exact m2) = A := by
            have := getI (l := l) (i := ((((i : Int) + ((k : Int) + 1) * -1).tmod l.length + l.length) % l.length).toNat) (by rw [z2]; exact m2)
            rw [← this, z2, hA]
          have x1 : 0 ≤ B ∧ B < n := by rw [← f1]; exact hc.2.1 _ (List.getElem_mem _)
          have x2 : 0 ≤ A ∧ A < n := by rw [← f2]; exact hc.2.1 _ (List.getElem_mem _)
          by_cases h0 : (B - A + n) % n = 0
          · have h1 : ((A - B) * -1 + n) % n = 0 := by rw [show (A - B) * -1 = B - A by omega]; exact h0
            refine tY oky ?_; refine drawP.mkS (Z (Z ?_)); refine Z ?_
            apply exP.mk
            refine Z ?_
            exact rfl
            apply exP.mk
            exact rfl
            apply exP.mk
            exact rfl
            apply exP.mk
            exact rfl
            apply exP.mk
            exact rfl
            apply exP.mk
            refine nw (by omega) (by omega) ?_
            exact rfl
            apply exP.mk
            refine nw (by omega) (by omega) ?_
            exact rfl
            apply exP.mk
            exact rfl
            apply exP.mk
            refine And.intro (by omega) ?_; refine ntm (by omega) ?_
            exact rfl
            apply exP.mk
            exact rfl
            apply exP.mk
            refine nw (by omega) (by omega) ?_
            exact rfl
            apply exP.mk
            exact rfl
            apply exP.mk
            refine And.intro (by omega) ?_; refine ntm (by omega) ?_
            exact rfl
            apply exP.mk
            iterate 2 refine Z ?_
            refine jnm (by omega) (by omega) ?_
            exact rfl
            apply exP.mk
            refine gmv (by omega) f1 ?_
            exact rfl
            apply exP.mk
            exact rfl
            refine drawP.mkS (Z (Z ?_)); refine Z ?_
            apply exP.mk
            refine Z ?_
            exact rfl
            apply exP.mk
            exact rfl
            apply exP.mk
            exact rfl
            apply exP.mk
            exact rfl
            apply exP.mk
            refine nw (by omega) (by omega) ?_
            exact rfl
            apply exP.mk
            exact rfl
            apply exP.mk
            refine nw (by omega) (by omega) ?_
            exact rfl
            apply exP.mk
            refine nw (by omega) (by omega) ?_
            exact rfl
            apply exP.mk
            exact rfl
            apply exP.mk
            refine And.intro (by omega) ?_; refine nr ?_
            exact rfl
            apply exP.mk
            exact rfl
            apply exP.mk
            refine nw (by omega) (by omega) ?_
            exact rfl
            apply exP.mk
            exact rfl
            apply exP.mk
            refine And.intro (by omega) ?_; refine ntm (by omega) ?_
            exact rfl
            apply exP.mk
            iterate 2 refine Z ?_
            refine jnm (by omega) (by omega) ?_
            exact rfl
            apply exP.mk
            refine gmv (by omega) f2 ?_
            exact rfl
            apply exP.mk
            exact rfl
            iterate 2 refine nw (by omega) (by omega) ?_
            refine Z ?_; refine nw (by omega) (by omega) ?_; refine Z ?_; refine And.intro (by omega) ?_; refine ntm (by omega) ?_; refine tY oky ?_; iterate 11 refine Z ?_
            refine lem1 (by omega) ?_; refine ea ?_; refine nw (by omega) (by omega) ?_; rotate_left; refine hR (k + 1) _ _ ?_ ?_; rotate_left; refine weak.mk [] [0, 3] rfl rfl ?_ ?_
            repeat' first | exact trivial | exact rfl | exact Iff.rfl | assumption | exact pureI | exact (show _ = _ by omega) | exact (show _ ≤ _ by omega) | exact (show _ < _ by omega) | exact (show ¬ _ by omega) | refine And.intro ?_ ?_
            rotate_right
            · exact ⟨by omega, by omega⟩
            · exact map_congr (by rw [gapsL_succ, g1, gp_0 h0])
          · have h1 : ¬ ((A - B) * -1 + n) % n = 0 := by rw [show (A - B) * -1 = B - A by omega]; exact h0
            refine tY oky ?_; refine drawP.mkS (Z (Z ?_)); refine Z ?_
            apply exP.mk
            refine Z ?_
            exact rfl
            apply exP.mk
            exact rfl
            apply exP.mk
            exact rfl
            apply exP.mk
            exact rfl
            apply exP.mk
            exact rfl
            apply exP.mk
            refine nw (by omega) (by omega) ?_
            exact rfl
            apply exP.mk
            refine nw (by omega) (by omega) ?_
            exact rfl
            apply exP.mk
            exact rfl
            apply exP.mk
            refine And.intro (by omega) ?_; refine ntm (by omega) ?_
            exact rfl
            apply exP.mk
            exact rfl
            apply exP.mk
            refine nw (by omega) (by omega) ?_
            exact rfl
            apply exP.mk
            exact rfl
            apply exP.mk
            refine And.intro (by omega) ?_; refine ntm (by omega) ?_
            exact rfl
            apply exP.mk
            iterate 2 refine Z ?_
            refine jnm (by omega) (by omega) ?_
            exact rfl
            apply exP.mk
            refine gmv (by omega) f1 ?_
            exact rfl
            apply exP.mk
            exact rfl
            refine drawP.mkS (Z (Z ?_)); refine Z ?_
            apply exP.mk
            refine Z ?_
            exact rfl
            apply exP.mk
            exact rfl
            apply exP.mk
            exact rfl
            apply exP.mk
            exact rfl
            apply exP.mk
            refine nw (by omega) (by omega) ?_
            exact rfl
            apply exP.mk
            exact rfl
            apply exP.mk
            refine nw (by omega) (by omega) ?_
            exact rfl
            apply exP.mk
            refine nw (by omega) (by omega) ?_
            exact rfl
            apply exP.mk
            exact rfl
            apply exP.mk
            refine And.intro (by omega) ?_; refine nr ?_
            exact rfl
            apply exP.mk
            exact rfl
            apply exP.mk
            refine nw (by omega) (by omega) ?_
            exact rfl
            apply exP.mk
            exact rfl
            apply exP.mk
            refine And.intro (by omega) ?_; refine ntm (by omega) ?_
            exact rfl
            apply exP.mk
            iterate 2 refine Z ?_
            refine jnm (by omega) (by omega) ?_
            exact rfl
            apply exP.mk
            refine gmv (by omega) f2 ?_
            exact rfl
            apply exP.mk
            exact rfl
            iterate 2 refine nw (by omega) (by omega) ?_
            refine Z ?_; refine nw (by omega) (by omega) ?_; refine Z ?_; refine And.intro (by omega) ?_; refine ntm (by omega) ?_; refine tN okn ?_; iterate 10 refine Z ?_
            refine lem1 (by omega) ?_; refine ea ?_; refine nw (by omega) (by omega) ?_; rotate_left; refine hR (k + 1) _ _ ?_ ?_; rotate_left; refine weak.mk [] [0, 3] rfl rfl ?_ ?_
            repeat' first | exact trivial | exact rfl | exact Iff.rfl | assumption | exact pureI | exact (show _ = _ by omega) | exact (show _ ≤ _ by omega) | exact (show _ < _ by omega) | exact (show ¬ _ by omega) | refine And.intro ?_ ?_
            rotate_right
            · exact ⟨by omega, by omega⟩
            · exact map_congr (by rw [gapsL_succ, g1, gp_1 h0, show B - A = (A - B) * -1 by omega])
        · have z1 : ((((i : Int) + (k : Int) * -1).tmod l.length + l.length) % l.length).toNat = (i + (l.length - 1 - k) + 1) % l.length := (left_t hmp).trans (left_1 hkl hi)
          have z2 : ((((i : Int) + ((k : Int) + 1) * -1).tmod l.length + l.length) % l.length).toNat = (i + (l.length - 1 - k)) % l.length := (left_t hmp).trans (left_2 hkl hi)
          have f1 : l[((((i : Int) + (k : Int) * -1).tmod l.length + l.length) % l.length).toNat]'(by rw [z1]; exact m1) = B := by
            have := getI (l := l) (i := ((((i : Int) + (k : Int) * -1).tmod l.length + l.length) % l.length).toNat) (by rw [z1]; exact m1)
            rw [← this, z1, hB]
          have f2 : l[((((i : Int) + ((k : Int) + 1) * -1).tmod l.length + l.length) % l.length).toNat]'(by rw [z2]; exact m2) = A := by
            have := getI (l := l) (i := ((((i : Int) + ((k : Int) + 1) * -1).tmod l.length + l.length) % l.length).toNat) (by rw [z2]; exact m2)
            rw [← this, z2, hA]
          have x1 : 0 ≤ B ∧ B < n := by rw [← f1]; exact hc.2.1 _ (List.getElem_mem _)
          have x2 : 0 ≤ A ∧ A < n := by rw [← f2]; exact hc.2.1 _ (List.getElem_mem _)
          by_cases h0 : (B - A + n) % n = 0
          · have h1 : ((A - B) * -1 + n) % n = 0 := by rw [show (A - B) * -1 = B - A by omega]; exact h0
            refine tY oky ?_; refine drawP.mkS (Z (Z ?_)); refine Z ?_
            apply exP.mk
            refine Z ?_
            exact rfl
            apply exP.mk
            exact rfl
            apply exP.mk
            exact rfl
            apply exP.mk
            exact rfl
            apply exP.mk
            exact rfl
            apply exP.mk
            refine nw (by omega) (by omega) ?_
            exact rfl
            apply exP.mk
            refine nw (by omega) (by omega) ?_
            exact rfl
            apply exP.mk
            exact rfl
            apply exP.mk
            refine And.intro (by omega) ?_; refine nr ?_
            exact rfl
            apply exP.mk
            exact rfl
            apply exP.mk
            refine nw (by omega) (by omega) ?_
            exact rfl
            apply exP.mk
            exact rfl
            apply exP.mk
            refine And.intro (by omega) ?_; refine ntm (by omega) ?_
            exact rfl
            apply exP.mk
            iterate 2 refine Z ?_
            refine jnm (by omega) (by omega) ?_
            exact rfl
            apply exP.mk
            refine gmv (by omega) f1 ?_
            exact rfl
            apply exP.mk
            exact rfl
            refine drawP.mkS (Z (Z ?_)); refine Z ?_
            apply exP.mk
            refine Z ?_
            exact rfl
            apply exP.mk
            exact rfl
            apply exP.mk
            exact rfl
            apply exP.mk
            exact rfl
            apply exP.mk
            refine nw (by omega) (by omega) ?_
            exact rfl
            apply exP.mk
            exact rfl
            apply exP.mk
            refine nw (by omega) (by omega) ?_
            exact rfl
            apply exP.mk
            refine nw (by omega) (by omega) ?_
            exact rfl
            apply exP.mk
            exact rfl
            apply exP.mk
            refine And.intro (by omega) ?_; refine nr ?_
            exact rfl
            apply exP.mk
            exact rfl
            apply exP.mk
            refine nw (by omega) (by omega) ?_
            exact rfl
            apply exP.mk
            exact rfl
            apply exP.mk
            refine And.intro (by omega) ?_; refine ntm (by omega) ?_
            exact rfl
            apply exP.mk
            iterate 2 refine Z ?_
            refine jnm (by omega) (by omega) ?_
            exact rfl
            apply exP.mk
            refine gmv (by omega) f2 ?_
            exact rfl
            apply exP.mk
            exact rfl
            iterate 2 refine nw (by omega) (by omega) ?_
            refine Z ?_; refine nw (by omega) (by omega) ?_; refine Z ?_; refine And.intro (by omega) ?_; refine ntm (by omega) ?_; refine tY oky ?_; iterate 11 refine Z ?_
            refine lem1 (by omega) ?_; refine ea ?_; refine nw (by omega) (by omega) ?_; rotate_left; refine hR (k + 1) _ _ ?_ ?_; rotate_left; refine weak.mk [] [0, 3] rfl rfl ?_ ?_
            repeat' first | exact trivial | exact rfl | exact Iff.rfl | assumption | exact pureI | exact (show _ = _ by omega) | exact (show _ ≤ _ by omega) | exact (show _ < _ by omega) | exact (show ¬ _ by omega) | refine And.intro ?_ ?_
            rotate_right
            · exact ⟨by omega, by omega⟩
            · exact map_congr (by rw [gapsL_succ, g1, gp_0 h0])
          · have h1 : ¬ ((A - B) * -1 + n) % n = 0 := by rw [show (A - B) * -1 = B - A by omega]; exact h0
            refine tY oky ?_; refine drawP.mkS (Z (Z ?_)); refine Z ?_
            apply exP.mk
            refine Z ?_
            exact rfl
            apply exP.mk
            exact rfl
            apply exP.mk
            exact rfl
            apply exP.mk
            exact rfl
            apply exP.mk
            exact rfl
            apply exP.mk
            refine nw (by omega) (by omega) ?_
            exact rfl
            apply exP.mk
            refine nw (by omega) (by omega) ?_
            exact rfl
            apply exP.mk
            exact rfl
            apply exP.mk
            refine And.intro (by omega) ?_; refine nr ?_
            exact rfl
            apply exP.mk
            exact rfl
            apply exP.mk
            refine nw (by omega) (by omega) ?_
            exact rfl
            apply exP.mk
            exact rfl
            apply exP.mk
            refine And.intro (by omega) ?_; refine ntm (by omega) ?_
            exact rfl
            apply exP.mk
            iterate 2 refine Z ?_
            refine jnm (by omega) (by omega) ?_
            exact rfl
            apply exP.mk
            refine gmv (by omega) f1 ?_
            exact rfl
            apply exP.mk
            exact rfl
            refine drawP.mkS (Z (Z ?_)); refine Z ?_
            apply exP.mk
            refine Z ?_
            exact rfl
            apply exP.mk
            exact rfl
            apply exP.mk
            exact rfl
            apply exP.mk
            exact rfl
            apply exP.mk
            refine nw (by omega) (by omega) ?_
            exact rfl
            apply exP.mk
            exact rfl
            apply exP.mk
            refine nw (by omega) (by omega) ?_
            exact rfl
            apply exP.mk
            refine nw (by omega) (by omega) ?_
            exact rfl
            apply exP.mk
            exact rfl
            apply exP.mk
            refine And.intro (by omega) ?_; refine nr ?_
            exact rfl
            apply exP.mk
            exact rfl
            apply exP.mk
            refine nw (by omega) (by omega) ?_
            exact rfl
            apply exP.mk
            exact rfl
            apply exP.mk
            refine And.intro (by omega) ?_; refine ntm (by omega) ?_
            exact rfl
            apply exP.mk
            iterate 2 refine Z ?_
            refine jnm (by omega) (by omega) ?_
            exact rfl
            apply exP.mk
            refine gmv (by omega) f2 ?_
            exact rfl
            apply exP.mk
            exact rfl
            iterate 2 refine nw (by omega) (by omega) ?_
            refine Z ?_; refine nw (by omega) (by omega) ?_; refine Z ?_; refine And.intro (by omega) ?_; refine ntm (by omega) ?_; refine tN okn ?_; iterate 10 refine Z ?_
            refine lem1 (by omega) ?_; refine ea ?_; refine nw (by omega) (by omega) ?_; rotate_left; refine hR (k + 1) _ _ ?_ ?_; rotate_left; refine weak.mk [] [0, 3] rfl rfl ?_ ?_
            repeat' first | exact trivial | exact rfl | exact Iff.rfl | assumption | exact pureI | exact (show _ = _ by omega) | exact (show _ ≤ _ by omega) | exact (show _ < _ by omega) | exact (show ¬ _ by omega) | refine And.intro ?_ ?_
            rotate_right
            · exact ⟨by omega, by omega⟩
            · exact map_congr (by rw [gapsL_succ, g1, gp_1 h0, show B - A = (A - B) * -1 by omega])
    · refine tN okn ?_
      rotate_left; refine doneV.mk [] [1] rfl rfl ?_ ?_ ?_
      repeat' first | exact trivial | exact rfl | exact Iff.rfl | assumption | exact pureI | exact (show _ = _ by omega) | exact (show _ ≤ _ by omega) | exact (show _ < _ by omega) | exact (show ¬ _ by omega) | refine And.intro ?_ ?_
      exact map_congr (by
        have e : k = l.length := by omega
        rw [e]; exact gapsL_all n l i)
end Sx
