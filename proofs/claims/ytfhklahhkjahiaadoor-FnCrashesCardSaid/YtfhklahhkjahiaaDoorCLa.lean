/- Contracts: texts, their parts and their seals. -/
import Derived.Test.YtfhklahhkjahiaaDoorCv
import Derived.Test.YtfhklahhkjahiaaDoorMxP
import Derived.Lib.AppendIntMem
set_option linter.all false
namespace Sx
open Go Go.Proofs
set_option maxRecDepth 100000
set_option maxHeartbeats 4000000
set_option linter.unusedSimpArgs false
set_option linter.unusedSectionVars false
variable [Glb]
/-- The table of the powers of ten is known. -/
class HasTab : Prop where
  h : ∀ w, Glb.G w → Lib.TabIs Tryd.prog w "internal/strconv.uint64pow10" .u64 Lib.pow10Tab
variable [HasTab]
theorem Itoa_c (n : Int) (h0 : 0 ≤ n) (h1 : n ≤ 9223372036854775807) : C 50 [i64 n] [] (.str (Lib.itoa n)) [] false := cf_pure fun w vs E Z hv hg => by
  obtain ⟨c, rfl, e⟩ := vs1 hv
  have := e.int_inv
  subst this
  refine ⟨Go.Proofs.enters_of Tryd.func50 (by kernel_rfl) rfl _ _, calls_mono (Tryd.strconv_Itoa n (by omega) h1 w (HasTab.h w hg)) fun e w' ⟨h2, k, os, h3⟩ => ⟨_, h2, .str _ _ (by simp), ?_⟩⟩
  subst h3
  exact Lib.below_grow _ _ (Nat.le_refl _) _ _
theorem BIndex_c (s : List UInt8) (c : UInt8) : C 86 [.str s, .str [c]] [] (i64 (Lib.indexByte s c)) [] false := cf_pure fun w vs E Z hv _ => by
  obtain ⟨x, y, rfl, h1, h2⟩ := vs2 hv
  obtain ⟨x, rfl, rfl⟩ := h1.str_inv
  obtain ⟨y, rfl, e⟩ := h2.str_inv
  obtain rfl : y = ⟨#[c]⟩ := by
    cases y with
    | mk d =>
      congr 1
      exact Array.toList_inj.1 (by simpa using e)
  refine ⟨Go.Proofs.enters_of Tryd.func86 (by kernel_rfl) rfl _ _, calls_mono (Tryd.stringslite_Index_one x c w) fun e w' ⟨h2, h3⟩ => ⟨_, h2, .int _ _, ?_⟩⟩
  subst h3
  exact Go.RowKit.Below.refl _ _
theorem BIndex_cY (s : List UInt8) (c : UInt8) (h : c ∈ s) : C 86 [.str s, .str [c]] [] (i64 (bef c s).length) [] false := by
  have := BIndex_c s c
  rwa [index_eq, if_pos h] at this
theorem BIndex_cN (s : List UInt8) (c : UInt8) (h : c ∉ s) : C 86 [.str s, .str [c]] [] (i64 (-1)) [] false := by
  have := BIndex_c s c
  rwa [index_eq, if_neg h] at this
theorem strIndex_cY (s : List UInt8) (c : UInt8) (h : c ∈ s) : C 82 [.str s, .str [c]] [] (i64 (bef c s).length) [] false := by
  refine mkC false false Tryd.func82 rfl ?_
  refine And.intro nofun ?_
  refine callW.mk [] 0 _ _ _ ((BIndex_cY s c h)) rfl rfl (by repeat' first | exact trivial | assumption | exact knownSS | exact knownApp knownSS knownNil | refine And.intro ?_ ?_) nofun ?_
  rotate_left
  refine doneV.mk [] [] rfl rfl ?_ ?_ ?_
  repeat' first | exact trivial | exact rfl | exact Iff.rfl | assumption | exact pureI | exact (show _ = _ by omega) | exact (show _ ≤ _ by omega) | exact (show _ < _ by omega) | exact (show ¬ _ by omega) | refine And.intro ?_ ?_
theorem strIndex_cN (s : List UInt8) (c : UInt8) (h : c ∉ s) : C 82 [.str s, .str [c]] [] (i64 (-1)) [] false := by
  refine mkC false false Tryd.func82 rfl ?_
  refine And.intro nofun ?_
  refine callW.mk [] 0 _ _ _ ((BIndex_cN s c h)) rfl rfl (by repeat' first | exact trivial | assumption | exact knownSS | exact knownApp knownSS knownNil | refine And.intro ?_ ?_) nofun ?_
  rotate_left
  refine doneV.mk [] [] rfl rfl ?_ ?_ ?_
  repeat' first | exact trivial | exact rfl | exact Iff.rfl | assumption | exact pureI | exact (show _ = _ by omega) | exact (show _ ≤ _ by omega) | exact (show _ < _ by omega) | exact (show ¬ _ by omega) | refine And.intro ?_ ?_
theorem BContains_c (s : List UInt8) (c : UInt8) (hs : s.length ≤ 1099511627776) : C 70 [.str s, .str [c]] [] (pr (c ∈ s)) [] false := by
  refine mkC false false Tryd.func70 rfl ?_
  refine And.intro nofun ?_
  by_cases h : c ∈ s
  · refine callW.mk [] 0 _ _ _ ((strIndex_cY s c h)) rfl rfl (by repeat' first | exact trivial | assumption | exact knownSS | exact knownApp knownSS knownNil | refine And.intro ?_ ?_) nofun ?_
    rotate_left
    refine doneV.mk [] [] rfl rfl ?_ ?_ ?_
    repeat' first | exact trivial | exact rfl | exact Iff.rfl | assumption | exact pureI | exact (show _ = _ by omega) | exact (show _ ≤ _ by omega) | exact (show _ < _ by omega) | exact (show ¬ _ by omega) | refine And.intro ?_ ?_
    exact (show _ ↔ _ from ⟨fun _ => h, fun _ => by omega⟩)
  · refine callW.mk [] 0 _ _ _ ((strIndex_cN s c h)) rfl rfl (by repeat' first | exact trivial | assumption | exact knownSS | exact knownApp knownSS knownNil | refine And.intro ?_ ?_) nofun ?_
    rotate_left
    refine doneV.mk [] [] rfl rfl ?_ ?_ ?_
    repeat' first | exact trivial | exact rfl | exact Iff.rfl | assumption | exact pureI | exact (show _ = _ by omega) | exact (show _ ≤ _ by omega) | exact (show _ < _ by omega) | exact (show ¬ _ by omega) | refine And.intro ?_ ?_
    exact (show _ ↔ _ from ⟨fun x => by omega, fun x => (h x).elim⟩)
theorem sCut_c (s : List UInt8) (c : UInt8) (hs : s.length ≤ 1099511627776) : C 84 [.str s, .str [c]] [] (.tuple [.str (bef c s), .str (aft c s), pr (c ∈ s)]) [] false := by
  refine mkC false false Tryd.func84 rfl ?_
  refine And.intro nofun ?_
  by_cases h : c ∈ s
  · have hl := bef_len h
    refine callW.mk [] 0 _ _ _ ((BIndex_cY s c h)) rfl rfl (by repeat' first | exact trivial | assumption | exact knownSS | exact knownApp knownSS knownNil | refine And.intro ?_ ?_) nofun ?_
    refine tY (by first | omega | assumption | exact rfl | exact Iff.rfl) ?_
    refine drawP.mk 12 (Z (Z (Z (Z ?_))))
    apply exP.mk
    exact rfl
    apply exP.mk
    exact rfl
    apply exP.mk
    refine jk (by omega) ?_
    refine eqS.mk _ rfl ?_
    exact rfl
    apply exP.mk
    exact rfl
    apply exP.mk
    exact rfl
    apply exP.mk
    exact rfl
    apply exP.mk
    refine lenS.mk 1 rfl ?_
    exact rfl
    apply exP.mk
    refine nw (by omega) (by omega) ?_
    exact rfl
    apply exP.mk
    refine jk (by omega) ?_
    refine eqS.mk _ rfl ?_
    exact rfl
    apply exP.mk
    exact rfl
    apply exP.mk
    exact rfl
    apply exP.mk
    exact rfl
    rotate_left
    refine doneV.mk [] [] rfl rfl ?_ ?_ ?_
    repeat' first | exact trivial | exact rfl | exact Iff.rfl | assumption | exact pureI | exact (show _ = _ by omega) | exact (show _ ≤ _ by omega) | exact (show _ < _ by omega) | exact (show ¬ _ by omega) | refine And.intro ?_ ?_
    all_goals first | exact h | exact (show List.drop 0 (List.take (bef c s).length s) = bef c s from take_bef) | exact (show List.drop ((bef c s).length + 1) (List.take s.length s) = aft c s by rw [List.take_length]; rfl)
  · refine callW.mk [] 0 _ _ _ ((BIndex_cN s c h)) rfl rfl (by repeat' first | exact trivial | assumption | exact knownSS | exact knownApp knownSS knownNil | refine And.intro ?_ ?_) nofun ?_
    refine tN (by first | omega | assumption | exact fun h => h (by assumption) | exact fun h => h rfl | exact fun h => h Iff.rfl) ?_
    rotate_left
    rw [bef_all h, aft_none h]
    refine doneV.mk [] [] rfl rfl ?_ ?_ ?_
    repeat' first | exact trivial | exact rfl | exact Iff.rfl | assumption | exact pureI | exact (show _ = _ by omega) | exact (show _ ≤ _ by omega) | exact (show _ < _ by omega) | exact (show ¬ _ by omega) | refine And.intro ?_ ?_
    all_goals first | exact h | exact fun x => h x
theorem checksum_c (s : List UInt8) (hs : s.length ≤ 1099511627776) : C 71 [.str s] [] (i64 (sumB s)) [] false := by
  refine mkC false false Tryd.func71 rfl ?_
  refine And.intro nofun ?_
  refine lenS.mk _ rfl ?_
  rotate_left
  refine loop_up (β := Nat) (fun k => [(7, i64 k), (3, i64 (sumB (s.take k)))]) (fun k => []) [] (fun k => k ≤ s.length) (fun k => s.length - k) (0) ?_ ?_ ?_
  · exact Nat.zero_le _
  · refine weak.mk [] [] rfl rfl ?_ ?_
    repeat' first | exact trivial | exact rfl | exact Iff.rfl | assumption | refine And.intro ?_ ?_
  · rintro k hk R hR
    have hb := byL s k
    have hr := sum_range (s.take k)
    refine twoP.mk (fun _ => ?_) (fun _ => ?_)
    refine nw (by omega) (by omega) ?_
    refine jk (by omega) ?_
    iterate 3 refine nw (by omega) (by omega) ?_
    refine And.intro (by omega) ?_
    refine ntm (by omega) ?_
    refine nw (by omega) (by omega) ?_
    iterate 2 rotate_left
    · rename_i h1
      refine hR (k + 1) _ _ ?_ (weak.mk [] [] rfl rfl ?_ ?_)
      repeat' first | exact trivial | exact rfl | exact Iff.rfl | assumption | refine And.intro ?_ ?_
      all_goals first | exact (sum_take (by omega)).symm | exact ⟨by omega, by omega⟩
    · rename_i h1
      refine doneV.mk [] [] rfl rfl ?_ ?_ ?_
      repeat' first | exact trivial | exact rfl | exact Iff.rfl | assumption | exact pureI | exact (show _ = _ by omega) | exact (show _ ≤ _ by omega) | exact (show _ < _ by omega) | exact (show ¬ _ by omega) | refine And.intro ?_ ?_
      exact (show sumB (s.take k) = sumB s by rw [List.take_of_length_le (by omega)])
theorem l1Sum_c (s : List UInt8) (hs : s.length ≤ 1099511627776) : C 81 [.str s] [] (i64 (sumB s)) [] false := by
  refine mkC false false Tryd.func81 rfl ?_
  refine And.intro nofun ?_
  rotate_left
  refine loop_up (β := Nat) (fun k => [(4, i64 k), (3, i64 (sumB (s.take k)))]) (fun k => []) [] (fun k => k ≤ s.length) (fun k => s.length - k) (0) ?_ ?_ ?_
  · exact Nat.zero_le _
  · refine weak.mk [] [] rfl rfl ?_ ?_
    repeat' first | exact trivial | exact rfl | exact Iff.rfl | assumption | refine And.intro ?_ ?_
  · rintro k hk R hR
    have hb := byL s k
    have hr := sum_range (s.take k)
    refine lenS.mk _ rfl ?_
    refine twoP.mk (fun _ => ?_) (fun _ => ?_)
    refine nw (by omega) (by omega) ?_
    refine jk (by omega) ?_
    iterate 3 refine nw (by omega) (by omega) ?_
    refine And.intro (by omega) ?_
    refine ntm (by omega) ?_
    refine nw (by omega) (by omega) ?_
    iterate 2 rotate_left
    · rename_i h1
      refine hR (k + 1) _ _ ?_ (weak.mk [] [] rfl rfl ?_ ?_)
      repeat' first | exact trivial | exact rfl | exact Iff.rfl | assumption | refine And.intro ?_ ?_
      all_goals first | exact (sum_take (by omega)).symm | exact ⟨by omega, by omega⟩
    · rename_i h1
      refine doneV.mk [] [] rfl rfl ?_ ?_ ?_
      repeat' first | exact trivial | exact rfl | exact Iff.rfl | assumption | exact pureI | exact (show _ = _ by omega) | exact (show _ ≤ _ by omega) | exact (show _ < _ by omega) | exact (show ¬ _ by omega) | refine And.intro ?_ ?_
      exact (show sumB (s.take k) = sumB s by rw [List.take_of_length_le (by omega)])
theorem Cut_c (s : List UInt8) (c : UInt8) (hs : s.length ≤ 1099511627776) : C 75 [.str s, .str [c]] [] (.tuple [.str (bef c s), .str (aft c s), pr (c ∈ s)]) [] false := by
  refine mkC false false Tryd.func75 rfl ?_
  refine And.intro nofun ?_
  refine callW.mk [] 0 _ _ _ ((sCut_c s c hs)) rfl rfl (by repeat' first | exact trivial | assumption | exact knownSS | exact knownApp knownSS knownNil | refine And.intro ?_ ?_) nofun ?_
  rotate_left
  refine doneV.mk [] [] rfl rfl ?_ ?_ ?_
  repeat' first | exact trivial | exact rfl | exact Iff.rfl | assumption | exact pureI | exact (show _ = _ by omega) | exact (show _ ≤ _ by omega) | exact (show _ < _ by omega) | exact (show ¬ _ by omega) | refine And.intro ?_ ?_
theorem l1Num_k (k : Nat) : ∀ n : Int, 0 ≤ n → n < k → n < 1000000000000 → C 69 [i64 n] [] (.str (Lib.itoa n)) [] false := by
  induction k with
  | zero => intro n h0 h1; omega
  | succ k ih =>
    intro n h0 h1 hk
    by_cases h : n < 10
    · rw [itoa_small h0 h]
      refine mkC false false Tryd.func69 rfl ?_
      refine And.intro nofun ?_
      refine tN (by first | omega | assumption | exact fun h => h (by assumption) | exact fun h => h rfl | exact fun h => h Iff.rfl) ?_
      refine tY (by first | omega | assumption | exact rfl | exact Iff.rfl) ?_
      refine nw (by omega) (by omega) ?_
      refine jn (by omega) (by simp; omega) ?_
      refine jn (by omega) (by omega) ?_
      refine eqS.mk _ rfl ?_
      rotate_left
      refine doneV.mk [] [] rfl rfl ?_ ?_ ?_
      repeat' first | exact trivial | exact rfl | exact Iff.rfl | assumption | exact pureI | exact (show _ = _ by omega) | exact (show _ ≤ _ by omega) | exact (show _ < _ by omega) | exact (show ¬ _ by omega) | refine And.intro ?_ ?_
      exact digit_cut h0 h
    · have hl := ih (n / 10) (by omega) (by omega) (by omega)
      have hlen := itoa_len (n := n / 10) (by omega) (d := 12) (by omega)
      rw [itoa_big (by omega)]
      refine mkC false false Tryd.func69 rfl ?_
      refine And.intro nofun ?_
      iterate 2 refine tN (by first | omega | assumption | exact fun h => h (by assumption) | exact fun h => h rfl | exact fun h => h Iff.rfl) ?_
      refine drawP.mk 11 (Z (Z (Z (Z ?_))))
      apply exP.mk
      exact rfl
      apply exP.mk
      refine And.intro (by omega) ?_
      refine ntd (by omega) (by omega) (by omega) ?_
      exact rfl
      apply exP.mk
      refine callP.mk _ _ _ (hl) (by repeat' first | exact trivial | assumption | exact knownSS | exact knownApp knownSS knownNil | refine And.intro ?_ ?_) nofun trivial ?_
      exact rfl
      apply exP.mk
      exact rfl
      apply exP.mk
      refine And.intro (by omega) ?_
      refine ntm (by omega) ?_
      exact rfl
      apply exP.mk
      exact rfl
      apply exP.mk
      refine And.intro (by omega) ?_
      refine ntm (by omega) ?_
      exact rfl
      apply exP.mk
      refine nw (by omega) (by omega) ?_
      exact rfl
      apply exP.mk
      refine jn (by omega) (by simp; omega) ?_
      refine jn (by omega) (by omega) ?_
      refine eqS.mk _ rfl ?_
      exact rfl
      apply exP.mk
      refine And.intro (by simp; omega) ?_
      refine eqS.mk _ rfl ?_
      exact rfl
      apply exP.mk
      exact rfl
      rotate_left
      refine doneV.mk [] [] rfl rfl ?_ ?_ ?_
      repeat' first | exact trivial | exact rfl | exact Iff.rfl | assumption | exact pureI | exact (show _ = _ by omega) | exact (show _ ≤ _ by omega) | exact (show _ < _ by omega) | exact (show ¬ _ by omega) | refine And.intro ?_ ?_
      exact congrArg (Lib.itoa (n / 10) ++ ·) (digit_cut (n := n % 10) (by omega) (by omega))
theorem l1Num_c (n : Int) (h0 : 0 ≤ n) (h1 : n < 1000000000000) : C 69 [i64 n] [] (.str (Lib.itoa n)) [] false := l1Num_k (n.toNat + 1) n h0 (by omega) h1
theorem l1Seal_c (s : List UInt8) (hs : s.length ≤ 1099511627776) : C 68 [.str s] [] (.str (sealB s)) [] false := by
  have hr := sum_range s
  have hr1 := hr.1
  have hr2 : sumB s < 1000000000000 := by omega
  have hlen := itoa_len hr.1 (d := 5) (by omega)
  refine mkC false false Tryd.func68 rfl ?_
  refine And.intro nofun ?_
  refine And.intro (by simp; omega) ?_
  refine eqS.mk _ rfl ?_
  refine callW.mk [] 0 _ _ _ (l1Sum_c _ (by first | omega | assumption | (simp; omega) | (simp; done))) rfl rfl trivial nofun ?_
  refine callW.mk [] 0 _ _ _ (l1Num_c _ (by first | omega | assumption | (simp; omega) | (simp; done)) (by first | omega | assumption | (simp; omega) | (simp; done))) rfl rfl trivial nofun ?_
  refine And.intro (by simp; omega) ?_
  refine eqS.mk _ rfl ?_
  rotate_left
  refine doneV.mk [] [] rfl rfl ?_ ?_ ?_
  repeat' first | exact trivial | exact rfl | exact Iff.rfl | assumption | exact pureI | exact (show _ = _ by omega) | exact (show _ ≤ _ by omega) | exact (show _ < _ by omega) | exact (show ¬ _ by omega) | refine And.intro ?_ ?_
theorem AppendChecksum_c (s : List UInt8) (hs : s.length ≤ 1099511627) : C 49 [.str s] [] (.tuple [.str (if acOk s then sealB s else []), pr (acOk s)]) [] false := by
  have hr := sum_range s
  have hr1 := hr.1
  have hr2 : sumB s ≤ 9223372036854775807 := by omega
  have hlen := itoa_len hr.1 (d := 5) (by omega)
  refine mkC false false Tryd.func49 rfl ?_
  refine And.intro nofun ?_
  by_cases hn : (35 : UInt8) ∈ s
  · have ha : ¬ acOk s := fun h => h.2.1 hn
    rw [if_neg ha]
    refine lenS.mk _ rfl ?_
    refine twoP.mk (fun _ => ?_) (fun _ => ?_)
    rotate_left
    refine callW.mk [] 0 _ _ _ ((BContains_c s 35 (by omega))) rfl rfl (by repeat' first | exact trivial | assumption | exact knownSS | exact knownApp knownSS knownNil | refine And.intro ?_ ?_) nofun ?_
    refine tY (by first | omega | assumption | exact rfl | exact Iff.rfl) ?_
    rotate_left
    all_goals refine dv0 rfl ?_
    all_goals exact ⟨rfl, fun h => ha h, trivial⟩
  · refine lenS.mk _ rfl ?_
    refine twoP.mk (fun _ => ?_) (fun _ => ?_)
    rotate_left
    refine callW.mk [] 0 _ _ _ ((BContains_c s 35 (by omega))) rfl rfl (by repeat' first | exact trivial | assumption | exact knownSS | exact knownApp knownSS knownNil | refine And.intro ?_ ?_) nofun ?_
    refine tN (by first | omega | assumption | exact fun h => h (by assumption) | exact fun h => h rfl | exact fun h => h Iff.rfl) ?_
    refine And.intro (by simp; omega) ?_
    refine eqS.mk _ rfl ?_
    refine callW.mk [] 0 _ _ _ (checksum_c _ (by first | omega | assumption | (simp; omega) | (simp; done))) rfl rfl trivial nofun ?_
    refine callW.mk [] 0 _ _ _ (Itoa_c _ (by first | omega | assumption | (simp; omega) | (simp; done)) (by first | omega | assumption | (simp; omega) | (simp; done))) rfl rfl trivial nofun ?_
    refine And.intro (by simp; omega) ?_
    refine eqS.mk _ rfl ?_
    refine lenS.mk _ rfl ?_
    refine twoP.mk (fun _ => ?_) (fun _ => ?_)
    iterate 2 rotate_left
    · rename_i h1
      have ha : ¬ acOk s := fun h => by have := h.1; omega
      rw [if_neg ha]
      refine dv0 rfl ?_
      exact ⟨rfl, fun h => ha h, trivial⟩
    · rename_i h1 h2
      have ha : ¬ acOk s := fun h => by
        have h3 : ((sealB s).length : Int) ≤ 4000 := h.2.2
        exact absurd h2 (by show ¬ (4000 : Int) < ((sealB s).length : Int); omega)
      rw [if_neg ha]
      refine dv0 rfl ?_
      exact ⟨rfl, fun h => ha h, trivial⟩
    · rename_i h1 h2
      have ha : acOk s := ⟨by omega, hn, by
        have h3 : ¬ (4000 : Int) < ((sealB s).length : Int) := h2
        omega⟩
      rw [if_pos ha]
      refine dv0 rfl ?_
      exact ⟨rfl, ha, trivial⟩
theorem VerifyChecksum_c (s : List UInt8) (hs : s.length ≤ 1099511627) : C 76 [.str s] [] (.tuple [.str (if vcOk s then bef 35 s else []), pr (vcOk s)]) [] false := by
  have hb := bef_le 35 s
  refine mkC false false Tryd.func76 rfl ?_
  refine And.intro nofun ?_
  refine callW.mk [] 0 _ _ _ ((Cut_c s 35 (by omega))) rfl rfl (by repeat' first | exact trivial | assumption | exact knownSS | exact knownApp knownSS knownNil | refine And.intro ?_ ?_) nofun ?_
  refine callW.mk [] 0 _ _ _ ((AppendChecksum_c (bef 35 s) (by omega))) rfl rfl (by repeat' first | exact trivial | assumption | exact knownSS | exact knownApp knownSS knownNil | refine And.intro ?_ ?_) nofun ?_
  refine twoN (fun _ => ?_) (fun _ => ?_)
  rotate_left
  refine twoN (fun _ => ?_) (fun _ => ?_)
  iterate 2 rotate_left
  · rename_i h1
    have hv : ¬ vcOk s := fun h => h1 h.1
    rw [if_neg hv]
    refine dv0 rfl ?_
    exact ⟨rfl, hv, trivial⟩
  · rename_i h1 h2
    rw [if_pos h1] at h2
    have hv : ¬ vcOk s := fun h => h2 h.2
    rw [if_neg hv]
    refine dv0 rfl ?_
    exact ⟨rfl, hv, trivial⟩
  · rename_i h1 h2
    rw [if_pos h1] at h2
    have h3 : vcOk s := ⟨h1, h2⟩
    rw [if_pos h3]
    refine dv0 rfl ?_
    exact ⟨rfl, h3, trivial⟩
theorem l1Split_c (s : List UInt8) (hs : s.length ≤ 1099511627) (x : UInt8) (n : Int) (hx : n = (x.toNat : Int)) : C 73 [.str s, .int .u8 n] [] (.loc 0) [rowT (splitB x s)] false := by
  subst hx
  refine mkC false false Tryd.func73 rfl ?_
  refine And.intro nofun ?_
  iterate 2 refine Z ?_
  rotate_left
  refine loop_up (β := Nat) (fun k => [(7, i64 k), (6, i64 (spl x s k).2), (5, .loc 0)]) (fun k => [(0, rowT (spl x s k).1)]) [1] (fun k => k ≤ s.length) (fun k => s.length - k) (0) ?_ ?_ ?_
  · exact Nat.zero_le _
  · refine weak.mk [1] [0] rfl rfl ?_ ?_
    repeat' first | exact trivial | exact rfl | exact Iff.rfl | assumption | exact pureI | exact (show _ = _ by omega) | exact (show _ ≤ _ by omega) | exact (show _ < _ by omega) | exact (show ¬ _ by omega) | refine And.intro ?_ ?_
  · rintro k hk R hR
    have hb := byL s k
    have hle := spl_le x s k
    refine lenS.mk _ rfl ?_
    refine twoP.mk (fun _ => ?_) (fun _ => ?_)
    refine jk (by omega) ?_
    refine twoP.mk (fun _ => ?_) (fun _ => ?_)
    iterate 2 refine jk (by omega) ?_
    refine eqS.mk _ rfl ?_
    iterate 10 refine Z ?_
    refine lem1 (by omega) ?_
    refine ea ?_
    iterate 2 refine nw (by omega) (by omega) ?_
    rotate_left
    refine nw (by omega) (by omega) ?_
    rotate_left
    refine jk (by omega) ?_
    refine eqS.mk _ rfl ?_
    iterate 10 refine Z ?_
    refine lem1 (by omega) ?_
    refine ea ?_
    rotate_left
    · rename_i h1 h2
      have hx : s.getD k 0 = x := UInt8.toNat_inj.1 (by omega)
      have e : spl x s (k + 1) = ((spl x s k).1 ++ [(s.take k).drop (spl x s k).2], k + 1) := if_pos hx
      refine hR (k + 1) _ _ ?_ ?_
      rotate_left
      refine weak.mk [] [2] rfl rfl ?_ ?_
      repeat' first | exact trivial | exact rfl | exact Iff.rfl | assumption | exact pureI | exact (show _ = _ by omega) | exact (show _ ≤ _ by omega) | exact (show _ < _ by omega) | exact (show ¬ _ by omega) | refine And.intro ?_ ?_
      rotate_right
      all_goals first | exact ⟨by omega, by omega⟩ | (rw [e]; done) | (rw [e]; rfl) | exact pureStr | skip
    · rename_i h1 h2
      have e : spl x s (k + 1) = spl x s k := if_neg (fun h => h2 (by rw [h]))
      refine hR (k + 1) _ _ ?_ ?_
      rotate_left
      refine weak.mk [] [0] rfl rfl ?_ ?_
      repeat' first | exact trivial | exact rfl | exact Iff.rfl | assumption | exact pureI | exact (show _ = _ by omega) | exact (show _ ≤ _ by omega) | exact (show _ < _ by omega) | exact (show ¬ _ by omega) | refine And.intro ?_ ?_
      rotate_right
      all_goals first | exact ⟨by omega, by omega⟩ | (rw [e]; done) | (rw [e]; rfl) | exact pureStr | skip
    · rename_i h1
      have e : k = s.length := by omega
      subst e
      refine doneV.mk [] [2] rfl rfl ?_ ?_ ?_
      repeat' first | exact trivial | exact rfl | exact Iff.rfl | assumption | exact pureI | exact (show _ = _ by omega) | exact (show _ ≤ _ by omega) | exact (show _ < _ by omega) | exact (show ¬ _ by omega) | refine And.intro ?_ ?_
      all_goals first | exact pureStr | (rw [List.take_length]; rfl) | skip
end Sx
