/- Contracts: how many forms there are. -/
import Derived.Test.YteaabofmnlbmkaaSyC
import Derived.Test.YteaabofmnlbmkaaCRc
import Derived.Test.YteaabofmnlbmkaaCRd
import Derived.Test.YteaabofmnlbmkaaCTa
import Derived.Test.YteaabofmnlbmkaaCb
import Derived.Test.YteaabofmnlbmkaaCRu
import Derived.Test.YteaabofmnlbmkaaMxVn
set_option linter.all false
namespace Sx
open Go Go.Proofs
set_option maxRecDepth 100000
set_option maxHeartbeats 8000000
set_option linter.unusedSimpArgs false
set_option linter.unusedSectionVars false
variable [Glb]
def cfOk (n r : Int) : Prop := (3 ≤ n ∧ n ≤ 12) ∧ 1 ≤ r ∧ r ≤ min 6 n
noncomputable instance (n r : Int) : Decidable (cfOk n r) := Classical.propDecidable _
noncomputable def cfR (n r : Int) : Int := if cfOk n r then (cfK n r.toNat (2 ^ n.toNat) : Nat) else 0
theorem cf_yes {n r : Int} (h : cfOk n r) : cfR n r = (cfK n r.toNat (2 ^ n.toNat) : Nat) := if_pos h
theorem cf_no {n r : Int} (h : ¬ cfOk n r) : cfR n r = 0 := if_neg h
theorem numE {A B : Int} {K : AV → Prop} (e : A = B) (h0 : 0 ≤ B) (h1 : B ≤ 1099511627776) (h : K (.int .i64 B)) : num .i64 (Go.IntKind.i64.wrap A) K := by
  subst e
  exact nw (by omega) (by omega) h
theorem shl_e {m : Nat} (h : m ≤ 12) : (1 * 2 ^ min ((m : Nat) : Int).toNat Go.IntKind.i64.bits : Int) = ((2 ^ m : Nat) : Int) := by
  have key : ∀ x : Fin 13, (1 * 2 ^ min ((x.val : Nat) : Int).toNat Go.IntKind.i64.bits : Int) = ((2 ^ x.val : Nat) : Int) := by decide +kernel
  exact key ⟨m, by omega⟩
theorem pow12 {m : Nat} (h : m ≤ 12) : 2 ^ m ≤ 4096 := by
  have key : ∀ x : Fin 13, 2 ^ x.val ≤ 4096 := by decide +kernel
  exact key ⟨m, by omega⟩
theorem and_1 {x : Nat} (h : x ≤ 1099511627776) : bitsOp .and .i64 (x : Int) 1 = ((x % 2 : Nat) : Int) := by
  unfold bitsOp
  dsimp only
  have e1 : (BitVec.ofInt 64 (x : Int) &&& BitVec.ofInt 64 1).toNat = x % 2 := by
    rw [BitVec.toNat_and]
    have e2 : (BitVec.ofInt 64 1).toNat = 1 := by decide
    have e3 : (BitVec.ofInt 64 (x : Int)).toNat = x := by
      rw [BitVec.toNat_ofInt]
      omega
    rw [e2, e3, Nat.and_one_is_mod]
  show Go.IntKind.i64.wrap ((BitVec.ofInt 64 (x : Int) &&& BitVec.ofInt 64 1).toNat : Int) = _
  rw [e1]
  have : x % 2 < 2 := Nat.mod_lt _ (by decide)
  unfold Go.IntKind.wrap
  simp [Go.IntKind.signed, Go.IntKind.bits]
  omega
theorem shr_e {c p : Nat} (h : p ≤ 12) : ((c : Nat) : Int).fdiv (2 ^ min ((p : Nat) : Int).toNat Go.IntKind.i64.bits) = ((c / 2 ^ p : Nat) : Int) := by
  have e : min ((p : Nat) : Int).toNat Go.IntKind.i64.bits = p := by
    rw [Int.toNat_natCast]
    have : Go.IntKind.i64.bits = 64 := rfl
    omega
  rw [e]
  rw [Int.fdiv_eq_ediv_of_nonneg _ (by exact_mod_cast Nat.zero_le _)]
  norm_cast
theorem bit_e {c p : Nat} (hc : c ≤ 4096) (hp : p ≤ 12) : bitsOp .and .i64 (((c : Nat) : Int).fdiv (2 ^ min ((p : Nat) : Int).toNat Go.IntKind.i64.bits)) 1 = ((c / 2 ^ p % 2 : Nat) : Int) := by
  rw [shr_e hp, and_1 (Nat.le_trans (Nat.div_le_self _ _) (by omega))]
theorem CountForms_k (n r : Int) : C 46 [i64 n, i64 r] [] (.tuple [i64 (cfR n r), pr (cfOk n r)]) [] false := by
  refine mkC false false Try.func46 rfl ?_; refine And.intro nofun ?_
  by_cases h : cfOk n r
  · rw [cf_yes h]
    obtain ⟨⟨h1, h2⟩, h3, h4⟩ := h
    have hok : cfOk n r := ⟨⟨h1, h2⟩, h3, h4⟩
    obtain ⟨m, rfl⟩ : ∃ m : Nat, n = m := ⟨n.toNat, by omega⟩
    obtain ⟨q, rfl⟩ : ∃ q : Nat, r = q := ⟨r.toNat, by omega⟩
    rw [Int.toNat_natCast, Int.toNat_natCast]
    refine callW.mk [] 0 _ _ _ (within_c _ _ _) rfl rfl trivial nofun ?_; refine tN okn ?_; refine nr ?_; refine callW.mk [] 0 _ _ _ (within_c _ _ _) rfl rfl trivial nofun ?_; refine tN okn ?_; refine And.intro (by omega) ?_; rotate_left; refine numE (shl_e (m := m) (by omega)) (Int.natCast_nonneg _) (Int.ofNat_le.2 (Nat.le_trans (pow12 (m := m) (by omega)) (by decide))) ?_
    have hM := pow12 (m := m) (by omega)
    obtain ⟨M, hMe⟩ : ∃ M : Nat, 2 ^ m = M := ⟨_, rfl⟩
    rw [hMe] at hM ⊢
    rotate_left; refine loop_up (β := Nat) (fun c => [(6, i64 ((cfK m q c : Nat) : Int)), (22, i64 c)]) (fun c => []) [] (fun c => c ≤ M) (fun c => M - c) (0) ?_ ?_ ?_
    · exact Nat.zero_le _
    · refine weak.mk [] [] rfl rfl ?_ ?_
      repeat' first | exact trivial | exact rfl | exact Iff.rfl | assumption | exact pureI | exact (show _ = _ by omega) | exact (show _ ≤ _ by omega) | exact (show _ < _ by omega) | exact (show ¬ _ by omega) | refine And.intro ?_ ?_
    · rintro c hc R hR
      have hcf := cfK_le m q c
      by_cases hcM : c < M
      · refine tY oky ?_
        iterate 9 refine Z ?_
        rotate_left; refine loop_up (β := Nat) (fun p => [(28, i64 p)]) (fun p => [(0, .row .var 2 [.agg [i64 m, .loc 1]]), (1, row (bitsK c p))]) [1] (fun p => p ≤ m) (fun p => m - p) (0) ?_ ?_ ?_
        · exact Nat.zero_le _
        · refine weak.mk [1] [0, 1] rfl rfl ?_ ?_
          repeat' first | exact trivial | exact rfl | exact Iff.rfl | assumption | exact pureI | exact (show _ = _ by omega) | exact (show _ ≤ _ by omega) | exact (show _ < _ by omega) | exact (show ¬ _ by omega) | refine And.intro ?_ ?_
        · rintro p hp R2 hR2
          have hbl := bitsK_len c p
          by_cases hpm : p < m
          · have hbit := bit_e (c := c) (p := p) (by omega) (by omega)
            by_cases hb : c / 2 ^ p % 2 = 1
            · have hb1 := bitsK_yes hb
              rw [hb] at hbit
              refine tY oky ?_; refine And.intro (by omega) ?_; iterate 2 refine nr ?_
              refine tY oky ?_; iterate 11 refine Z ?_
              refine lem1 (by omega) ?_; refine ea ?_; iterate 5 refine Z ?_
              refine nw (by omega) (by omega) ?_; rotate_left; refine hR2 (p + 1) _ _ ?_ ?_; rotate_left; refine weak.mk [] [0, 3] rfl rfl ?_ ?_
              repeat' first | exact trivial | exact rfl | exact Iff.rfl | assumption | exact pureI | exact (show _ = _ by omega) | exact (show _ ≤ _ by omega) | exact (show _ < _ by omega) | exact (show ¬ _ by omega) | refine And.intro ?_ ?_
              rotate_right
              · exact ⟨by omega, by omega⟩
              all_goals (first | exact congrArg (List.map i64) hb1.symm | skip)
            · have hb1 := bitsK_no hb
              have hbit2 : ¬ bitsOp .and .i64 (((c : Nat) : Int).fdiv (2 ^ min ((p : Nat) : Int).toNat Go.IntKind.i64.bits)) 1 = 1 := by rw [hbit]; omega
              refine tY oky ?_; refine And.intro (by omega) ?_; iterate 2 refine nr ?_
              refine tN okn ?_; refine nw (by omega) (by omega) ?_; rotate_left; refine hR2 (p + 1) _ _ ?_ ?_; rotate_left; refine weak.mk [] [0, 1] rfl rfl ?_ ?_
              repeat' first | exact trivial | exact rfl | exact Iff.rfl | assumption | exact pureI | exact (show _ = _ by omega) | exact (show _ ≤ _ by omega) | exact (show _ < _ by omega) | exact (show ¬ _ by omega) | refine And.intro ?_ ?_
              rotate_right
              · exact ⟨by omega, by omega⟩
              all_goals (first | exact congrArg (List.map i64) hb1.symm | skip)
          · obtain rfl : p = m := by omega
            by_cases hl : (bitsK c p).length = q
            · have hcr : crowd p (bitsK c p) := by
                have := bits_crowd (n := (p : Int)) (c := c) ⟨by omega, by omega⟩ (by rw [Int.toNat_natCast]; omega)
                rwa [Int.toNat_natCast] at this
              have hfl : (formR p (bitsK c p)).length = (bitsK c p).length := (formK_crowd hcr _).2
              by_cases hf : bitsK c p = formR p (bitsK c p)
              · have hy : cfK p q (c + 1) = cfK p q c + 1 := cfK_yes (by rw [Int.toNat_natCast]; exact ⟨hl, hf.symm⟩)
                refine tN okn ?_; refine drawP.mk 11 (Z (Z (Z (Z ?_))))
                apply exP.mk
                refine Z ?_
                exact rfl
                apply exP.mk
                exact rfl
                apply exP.mk
                refine lm ?_
                exact rfl
                apply exP.mk
                exact rfl
                apply exP.mk
                exact rfl
                apply exP.mk
                exact rfl
                refine tY oky ?_
                apply exP.mk
                exact rfl
                apply exP.mk
                exact rfl
                apply exP.mk
                refine callP.mk _ _ _ (form_c _ _ oka) trivial nofun trivial ?_
                exact rfl
                apply exP.mk
                refine callP.mk _ _ _ (sameP_c _ _ _ oka oka) trivial nofun trivial ?_
                exact rfl
                refine tY oky ?_; iterate 2 refine nw (by omega) (by omega) ?_
                rotate_left; refine hR (c + 1) _ _ ?_ ?_
                rotate_left; refine weak.mk [] [] rfl rfl ?_ ?_
                repeat' first | exact trivial | exact rfl | exact Iff.rfl | assumption | exact pureI | exact (show _ = _ by omega) | exact (show _ ≤ _ by omega) | exact (show _ < _ by omega) | exact (show ¬ _ by omega) | refine And.intro ?_ ?_
                rotate_right
                · exact ⟨by omega, by omega⟩
                all_goals (first | omega | skip)
              · have hy : cfK p q (c + 1) = cfK p q c := cfK_no (by rw [Int.toNat_natCast]; exact fun x => hf x.2.symm)
                refine tN okn ?_; refine drawP.mk 11 (Z (Z (Z (Z ?_))))
                apply exP.mk
                refine Z ?_
                exact rfl
                apply exP.mk
                exact rfl
                apply exP.mk
                refine lm ?_
                exact rfl
                apply exP.mk
                exact rfl
                apply exP.mk
                exact rfl
                apply exP.mk
                exact rfl
                refine tY oky ?_
                apply exP.mk
                exact rfl
                apply exP.mk
                exact rfl
                apply exP.mk
                refine callP.mk _ _ _ (form_c _ _ oka) trivial nofun trivial ?_
                exact rfl
                apply exP.mk
                refine callP.mk _ _ _ (sameP_c _ _ _ oka oka) trivial nofun trivial ?_
                exact rfl
                refine tN okn ?_; refine nw (by omega) (by omega) ?_; rotate_left; refine hR (c + 1) _ _ ?_ ?_; rotate_left; refine weak.mk [] [] rfl rfl ?_ ?_
                repeat' first | exact trivial | exact rfl | exact Iff.rfl | assumption | exact pureI | exact (show _ = _ by omega) | exact (show _ ≤ _ by omega) | exact (show _ < _ by omega) | exact (show ¬ _ by omega) | refine And.intro ?_ ?_
                rotate_right
                · exact ⟨by omega, by omega⟩
                all_goals (first | omega | skip)
            · have hy : cfK p q (c + 1) = cfK p q c := cfK_no (by rw [Int.toNat_natCast]; exact fun x => hl x.1)
              refine tN okn ?_; refine drawP.mk 11 (Z (Z (Z (Z ?_))))
              apply exP.mk
              refine Z ?_
              exact rfl
              apply exP.mk
              exact rfl
              apply exP.mk
              refine lm ?_
              exact rfl
              apply exP.mk
              exact rfl
              apply exP.mk
              exact rfl
              apply exP.mk
              exact rfl
              refine tN okn ?_; refine nw (by omega) (by omega) ?_; rotate_left; refine hR (c + 1) _ _ ?_ ?_; rotate_left; refine weak.mk [] [] rfl rfl ?_ ?_
              repeat' first | exact trivial | exact rfl | exact Iff.rfl | assumption | exact pureI | exact (show _ = _ by omega) | exact (show _ ≤ _ by omega) | exact (show _ < _ by omega) | exact (show ¬ _ by omega) | refine And.intro ?_ ?_
              rotate_right
              · exact ⟨by omega, by omega⟩
              all_goals (first | omega | skip)
      · obtain rfl : c = M := by omega
        refine tN okn ?_; rotate_left; refine doneV.mk [] [] rfl rfl ?_ ?_ ?_
        repeat' first | exact trivial | exact rfl | exact Iff.rfl | assumption | exact pureI | exact (show _ = _ by omega) | exact (show _ ≤ _ by omega) | exact (show _ < _ by omega) | exact (show ¬ _ by omega) | refine And.intro ?_ ?_
        all_goals exact hok
  · rw [cf_no h]
    by_cases hn : 3 ≤ n ∧ n ≤ 12
    · have hr : ¬ (1 ≤ r ∧ r ≤ min 6 n) := fun x => h ⟨hn, x⟩
      refine callW.mk [] 0 _ _ _ (within_c _ _ _) rfl rfl trivial nofun ?_; refine tN okn ?_; refine nr ?_; refine callW.mk [] 0 _ _ _ (within_c _ _ _) rfl rfl trivial nofun ?_; refine tY oky ?_; rotate_left; refine doneV.mk [] [] rfl rfl ?_ ?_ ?_
      repeat' first | exact trivial | exact rfl | exact Iff.rfl | assumption | exact pureI | exact (show _ = _ by omega) | exact (show _ ≤ _ by omega) | exact (show _ < _ by omega) | exact (show ¬ _ by omega) | refine And.intro ?_ ?_
      all_goals exact h
    · refine callW.mk [] 0 _ _ _ (within_c _ _ _) rfl rfl trivial nofun ?_
      refine tY oky ?_; rotate_left; refine doneV.mk [] [] rfl rfl ?_ ?_ ?_
      repeat' first | exact trivial | exact rfl | exact Iff.rfl | assumption | exact pureI | exact (show _ = _ by omega) | exact (show _ ≤ _ by omega) | exact (show _ < _ by omega) | exact (show ¬ _ by omega) | refine And.intro ?_ ?_
      all_goals exact h
theorem sCountForms_k (n r : Int) : C 47 [i64 n, i64 r] [] (.tuple [i64 (cfR n r), pr (cfOk n r)]) [] false := by
  refine mkC false false Try.func47 rfl ?_; refine And.intro nofun ?_
  by_cases h : cfOk n r
  · rw [cf_yes h]
    obtain ⟨⟨h1, h2⟩, h3, h4⟩ := h
    have hok : cfOk n r := ⟨⟨h1, h2⟩, h3, h4⟩
    obtain ⟨m, rfl⟩ : ∃ m : Nat, n = m := ⟨n.toNat, by omega⟩
    obtain ⟨q, rfl⟩ : ∃ q : Nat, r = q := ⟨r.toNat, by omega⟩
    rw [Int.toNat_natCast, Int.toNat_natCast]
    have hM := pow12 (m := m) (by omega)
    have hsh := shl_e (m := m) (by omega)
    obtain ⟨M, hMe⟩ : ∃ M : Nat, 2 ^ m = M := ⟨_, rfl⟩
    rw [hMe] at hM hsh ⊢
    refine callW.mk [] 0 _ _ _ (in_c _ _ _) rfl rfl trivial nofun ?_; refine tN okn ?_; refine callW.mk [] 0 _ _ _ (least_c _ _) rfl rfl trivial nofun ?_; refine callW.mk [] 0 _ _ _ (in_c _ _ _) rfl rfl trivial nofun ?_; refine tN okn ?_; rotate_left; refine loop_up (β := Nat) (fun c => [(6, i64 ((cfK m q c : Nat) : Int)), (7, i64 c)]) (fun c => []) [] (fun c => c ≤ M) (fun c => M - c) (0) ?_ ?_ ?_
    · exact Nat.zero_le _
    · refine weak.mk [] [] rfl rfl ?_ ?_
      repeat' first | exact trivial | exact rfl | exact Iff.rfl | assumption | exact pureI | exact (show _ = _ by omega) | exact (show _ ≤ _ by omega) | exact (show _ < _ by omega) | exact (show ¬ _ by omega) | refine And.intro ?_ ?_
    · rintro c hc R hR
      have hcf := cfK_le m q c
      by_cases hcM : c < M
      · refine And.intro (by omega) ?_
        refine nw (by omega) (by omega) ?_; refine tY oky ?_; iterate 14 refine Z ?_
        rotate_left; refine loop_up (β := Nat) (fun p => [(9, i64 p)]) (fun p => [(0, .row .var 2 [.agg [i64 m, .loc 1]]), (1, row (bitsK c p))]) [1] (fun p => p ≤ m) (fun p => m - p) (0) ?_ ?_ ?_
        · exact Nat.zero_le _
        · refine weak.mk [1] [0, 1] rfl rfl ?_ ?_
          repeat' first | exact trivial | exact rfl | exact Iff.rfl | assumption | exact pureI | exact (show _ = _ by omega) | exact (show _ ≤ _ by omega) | exact (show _ < _ by omega) | exact (show ¬ _ by omega) | refine And.intro ?_ ?_
        · rintro p hp R2 hR2
          have hbl := bitsK_len c p
          by_cases hpm : p < m
          · have hbit := bit_e (c := c) (p := p) (by omega) (by omega)
            by_cases hb : c / 2 ^ p % 2 = 1
            · have hb1 := bitsK_yes hb
              rw [hb] at hbit
              refine tY oky ?_; refine And.intro (by omega) ?_; iterate 2 refine nr ?_
              refine tY oky ?_; iterate 11 refine Z ?_
              refine lem1 (by omega) ?_; refine ea ?_; iterate 5 refine Z ?_
              refine nw (by omega) (by omega) ?_; rotate_left; refine hR2 (p + 1) _ _ ?_ ?_; rotate_left; refine weak.mk [] [0, 3] rfl rfl ?_ ?_
              repeat' first | exact trivial | exact rfl | exact Iff.rfl | assumption | exact pureI | exact (show _ = _ by omega) | exact (show _ ≤ _ by omega) | exact (show _ < _ by omega) | exact (show ¬ _ by omega) | refine And.intro ?_ ?_
              rotate_right
              · exact ⟨by omega, by omega⟩
              all_goals (first | exact congrArg (List.map i64) hb1.symm | skip)
            · have hb1 := bitsK_no hb
              have hbit2 : ¬ bitsOp .and .i64 (((c : Nat) : Int).fdiv (2 ^ min ((p : Nat) : Int).toNat Go.IntKind.i64.bits)) 1 = 1 := by rw [hbit]; omega
              refine tY oky ?_; refine And.intro (by omega) ?_; iterate 2 refine nr ?_
              refine tN okn ?_; refine nw (by omega) (by omega) ?_; rotate_left; refine hR2 (p + 1) _ _ ?_ ?_; rotate_left; refine weak.mk [] [0, 1] rfl rfl ?_ ?_
              repeat' first | exact trivial | exact rfl | exact Iff.rfl | assumption | exact pureI | exact (show _ = _ by omega) | exact (show _ ≤ _ by omega) | exact (show _ < _ by omega) | exact (show ¬ _ by omega) | refine And.intro ?_ ?_
              rotate_right
              · exact ⟨by omega, by omega⟩
              all_goals (first | exact congrArg (List.map i64) hb1.symm | skip)
          · obtain rfl : p = m := by omega
            by_cases hl : (bitsK c p).length = q
            · have hcr : crowd p (bitsK c p) := by
                have := bits_crowd (n := (p : Int)) (c := c) ⟨by omega, by omega⟩ (by rw [Int.toNat_natCast]; omega)
                rwa [Int.toNat_natCast] at this
              have hfl : (formR p (bitsK c p)).length = (bitsK c p).length := (formK_crowd hcr _).2
              by_cases hf : formR p (bitsK c p) = bitsK c p
              · have hy : cfK p q (c + 1) = cfK p q c + 1 := cfK_yes (by rw [Int.toNat_natCast]; exact ⟨hl, hf⟩)
                have hz : (bitsK c p)[0]'(by omega) = 0 := by rw [← getI (by omega)]; exact form_zero hcr hf
                refine tN okn ?_; refine drawP.mk 20 (Z (Z (Z (Z ?_))))
                apply exP.mk
                refine Z ?_
                exact rfl
                apply exP.mk
                exact rfl
                apply exP.mk
                refine lm ?_
                exact rfl
                apply exP.mk
                exact rfl
                apply exP.mk
                exact rfl
                apply exP.mk
                exact rfl
                refine tY oky ?_
                apply exP.mk
                refine Z ?_
                exact rfl
                apply exP.mk
                exact rfl
                apply exP.mk
                iterate 2 refine Z ?_
                refine idxN.mk 0 (by omega) (by simp; omega) rfl ?_
                exact rfl
                apply exP.mk
                refine gmv (by omega) hz ?_
                exact rfl
                apply exP.mk
                exact rfl
                apply exP.mk
                exact rfl
                refine tY oky ?_
                apply exP.mk
                exact rfl
                apply exP.mk
                refine callP.mk _ _ _ (l10Form_c _ _ oka) trivial nofun trivial ?_
                exact rfl
                apply exP.mk
                exact rfl
                apply exP.mk
                refine Z ?_
                exact rfl
                apply exP.mk
                exact rfl
                apply exP.mk
                refine callP.mk _ _ _ (l1Same_c _ _ oka oka) trivial nofun trivial ?_
                exact rfl
                refine tY oky ?_; iterate 2 refine nw (by omega) (by omega) ?_
                rotate_left; refine hR (c + 1) _ _ ?_ ?_
                rotate_left; refine weak.mk [] [] rfl rfl ?_ ?_
                repeat' first | exact trivial | exact rfl | exact Iff.rfl | assumption | exact pureI | exact (show _ = _ by omega) | exact (show _ ≤ _ by omega) | exact (show _ < _ by omega) | exact (show ¬ _ by omega) | refine And.intro ?_ ?_
                rotate_right
                · exact ⟨by omega, by omega⟩
                all_goals (first | omega | skip)
              · have hy : cfK p q (c + 1) = cfK p q c := cfK_no (by rw [Int.toNat_natCast]; exact fun x => hf x.2)
                by_cases hz : (bitsK c p)[0]'(by omega) = 0
                · refine tN okn ?_
                  refine drawP.mk 20 (Z (Z (Z (Z ?_))))
                  apply exP.mk
                  refine Z ?_
                  exact rfl
                  apply exP.mk
                  exact rfl
                  apply exP.mk
                  refine lm ?_
                  exact rfl
                  apply exP.mk
                  exact rfl
                  apply exP.mk
                  exact rfl
                  apply exP.mk
                  exact rfl
                  refine tY oky ?_
                  apply exP.mk
                  refine Z ?_
                  exact rfl
                  apply exP.mk
                  exact rfl
                  apply exP.mk
                  iterate 2 refine Z ?_
                  refine idxN.mk 0 (by omega) (by simp; omega) rfl ?_
                  exact rfl
                  apply exP.mk
                  refine gmv (by omega) hz ?_
                  exact rfl
                  apply exP.mk
                  exact rfl
                  apply exP.mk
                  exact rfl
                  refine tY oky ?_
                  apply exP.mk
                  exact rfl
                  apply exP.mk
                  refine callP.mk _ _ _ (l10Form_c _ _ oka) trivial nofun trivial ?_
                  exact rfl
                  apply exP.mk
                  exact rfl
                  apply exP.mk
                  refine Z ?_
                  exact rfl
                  apply exP.mk
                  exact rfl
                  apply exP.mk
                  refine callP.mk _ _ _ (l1Same_c _ _ oka oka) trivial nofun trivial ?_
                  exact rfl
                  refine tN okn ?_; refine nw (by omega) (by omega) ?_; rotate_left; refine hR (c + 1) _ _ ?_ ?_; rotate_left; refine weak.mk [] [] rfl rfl ?_ ?_
                  repeat' first | exact trivial | exact rfl | exact Iff.rfl | assumption | exact pureI | exact (show _ = _ by omega) | exact (show _ ≤ _ by omega) | exact (show _ < _ by omega) | exact (show ¬ _ by omega) | refine And.intro ?_ ?_
                  rotate_right
                  · exact ⟨by omega, by omega⟩
                  all_goals (first | omega | skip)
                · refine tN okn ?_
                  refine drawP.mk 20 (Z (Z (Z (Z ?_))))
                  apply exP.mk
                  refine Z ?_
                  exact rfl
                  apply exP.mk
                  exact rfl
                  apply exP.mk
                  refine lm ?_
                  exact rfl
                  apply exP.mk
                  exact rfl
                  apply exP.mk
                  exact rfl
                  apply exP.mk
                  exact rfl
                  refine tY oky ?_
                  apply exP.mk
                  refine Z ?_
                  exact rfl
                  apply exP.mk
                  exact rfl
                  apply exP.mk
                  iterate 2 refine Z ?_
                  refine idxN.mk 0 (by omega) (by simp; omega) rfl ?_
                  exact rfl
                  apply exP.mk
                  refine gm (by omega) ?_
                  exact rfl
                  apply exP.mk
                  exact rfl
                  apply exP.mk
                  exact rfl
                  refine tN okn ?_; refine nw (by omega) (by omega) ?_; rotate_left; refine hR (c + 1) _ _ ?_ ?_; rotate_left; refine weak.mk [] [] rfl rfl ?_ ?_
                  repeat' first | exact trivial | exact rfl | exact Iff.rfl | assumption | exact pureI | exact (show _ = _ by omega) | exact (show _ ≤ _ by omega) | exact (show _ < _ by omega) | exact (show ¬ _ by omega) | refine And.intro ?_ ?_
                  rotate_right
                  · exact ⟨by omega, by omega⟩
                  all_goals (first | omega | skip)
            · have hy : cfK p q (c + 1) = cfK p q c := cfK_no (by rw [Int.toNat_natCast]; exact fun x => hl x.1)
              refine tN okn ?_; refine drawP.mk 20 (Z (Z (Z (Z ?_))))
              apply exP.mk
              refine Z ?_
              exact rfl
              apply exP.mk
              exact rfl
              apply exP.mk
              refine lm ?_
              exact rfl
              apply exP.mk
              exact rfl
              apply exP.mk
              exact rfl
              apply exP.mk
              exact rfl
              refine tN okn ?_
              apply exP.mk
              exact rfl
              refine nw (by omega) (by omega) ?_; rotate_left; refine hR (c + 1) _ _ ?_ ?_; rotate_left; refine weak.mk [] [] rfl rfl ?_ ?_
              repeat' first | exact trivial | exact rfl | exact Iff.rfl | assumption | exact pureI | exact (show _ = _ by omega) | exact (show _ ≤ _ by omega) | exact (show _ < _ by omega) | exact (show ¬ _ by omega) | refine And.intro ?_ ?_
              rotate_right
              · exact ⟨by omega, by omega⟩
              all_goals (first | omega | skip)
      · obtain rfl : c = M := by omega
        refine And.intro (by omega) ?_; refine nw (by omega) (by omega) ?_; refine tN okn ?_; rotate_left; refine doneV.mk [] [] rfl rfl ?_ ?_ ?_
        repeat' first | exact trivial | exact rfl | exact Iff.rfl | assumption | exact pureI | exact (show _ = _ by omega) | exact (show _ ≤ _ by omega) | exact (show _ < _ by omega) | exact (show ¬ _ by omega) | refine And.intro ?_ ?_
        all_goals exact hok
  · rw [cf_no h]
    by_cases hn : 3 ≤ n ∧ n ≤ 12
    · have hr : ¬ (1 ≤ r ∧ r ≤ min 6 n) := fun x => h ⟨hn, x⟩
      refine callW.mk [] 0 _ _ _ (in_c _ _ _) rfl rfl trivial nofun ?_; refine tN okn ?_; refine callW.mk [] 0 _ _ _ (least_c _ _) rfl rfl trivial nofun ?_; refine callW.mk [] 0 _ _ _ (in_c _ _ _) rfl rfl trivial nofun ?_; refine tY oky ?_; rotate_left; refine doneV.mk [] [] rfl rfl ?_ ?_ ?_
      repeat' first | exact trivial | exact rfl | exact Iff.rfl | assumption | exact pureI | exact (show _ = _ by omega) | exact (show _ ≤ _ by omega) | exact (show _ < _ by omega) | exact (show ¬ _ by omega) | refine And.intro ?_ ?_
      all_goals exact h
    · refine callW.mk [] 0 _ _ _ (in_c _ _ _) rfl rfl trivial nofun ?_
      refine tY oky ?_; rotate_left; refine doneV.mk [] [] rfl rfl ?_ ?_ ?_
      repeat' first | exact trivial | exact rfl | exact Iff.rfl | assumption | exact pureI | exact (show _ = _ by omega) | exact (show _ ≤ _ by omega) | exact (show _ < _ by omega) | exact (show ¬ _ by omega) | refine And.intro ?_ ?_
      all_goals exact h
end Sx
