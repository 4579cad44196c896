/- Contracts: records in a text. -/
import Derived.Test.YtfhklahhkjahiaaDoorCLa
import Derived.Test.YtfhklahhkjahiaaDoorMxQ
set_option linter.all false
namespace Sx
open Go Go.Proofs
set_option maxRecDepth 100000
set_option maxHeartbeats 4000000
set_option linter.unusedSimpArgs false
set_option linter.unusedSectionVars false
variable [Glb]
variable [HasTab]
theorem EncodeRecord_c (k : Int) (c r : List UInt8) (hc : c.length ≤ 1099511627) (hr : r.length ≤ 1099511627) : C 15 [i64 k, rec2 c r] [] (.tuple [.str (if encOk k c r then lineB k c r else []), pr (encOk k c r)]) [] false := by
  refine mkC false false Tryd.func15 rfl ?_
  refine And.intro nofun ?_
  by_cases he : encOk k c r
  · rw [if_pos he]
    have h1 := he.1
    have h2 := he.2
    have h3 := h1.1
    have h4 : k ≤ 9223372036854775807 := by omega
    have h5 := text_ac h1.1 (by omega) h2
    have h6 := text_len h1.1 (by omega) h2
    have h7 := itoa_len h1.1 (d := 12) (by omega)
    have h8 := seal_len (textB k c r)
    have hA := AppendChecksum_c (textB k c r) (by omega)
    rw [if_pos h5] at hA
    refine Z ?_
    refine callW.mk [] 1 _ _ _ (within_c _ _ _) rfl rfl trivial nofun ?_
    refine tN (by first | omega | assumption | exact fun h => h (by assumption) | exact fun h => h rfl | exact fun h => h Iff.rfl) ?_
    refine callW.mk [] 1 _ _ _ (IsValidRecord_c _ _ (by first | omega | assumption | (simp; omega) | (simp; done)) (by first | omega | assumption | (simp; omega) | (simp; done))) rfl rfl trivial nofun ?_
    refine tN (by first | omega | assumption | exact fun h => h (by assumption) | exact fun h => h rfl | exact fun h => h Iff.rfl) ?_
    refine drawP.mkS (Z (Z ?_))
    refine Z ?_
    apply exP.mk
    exact rfl
    apply exP.mk
    refine Z ?_
    exact rfl
    apply exP.mk
    exact rfl
    apply exP.mk
    refine Z ?_
    exact rfl
    apply exP.mk
    exact rfl
    refine callW.mk [] 1 _ _ _ ((Itoa_c k h3 h4)) rfl rfl (by repeat' first | exact trivial | assumption | exact knownSS | exact knownApp knownSS knownNil | refine And.intro ?_ ?_) nofun ?_
    refine Z ?_
    apply exP.mk
    refine And.intro (by simp; omega) ?_
    refine eqS.mk _ rfl ?_
    exact rfl
    refine And.intro ?_ ?_
    refine Z ?_
    exact rfl
    refine Z ?_
    apply exP.mk
    refine And.intro (by simp; omega) ?_
    refine eqS.mk _ rfl ?_
    exact rfl
    apply exP.mk
    refine And.intro (by simp; omega) ?_
    refine eqS.mk _ rfl ?_
    exact rfl
    refine And.intro ?_ ?_
    refine Z ?_
    exact rfl
    refine Z ?_
    apply exP.mk
    refine And.intro (by simp; omega) ?_
    refine eqS.mk _ rfl ?_
    exact rfl
    refine callW.mk [] 1 _ _ _ (hA) rfl rfl (by repeat' first | exact trivial | assumption | exact knownSS | exact knownApp knownSS knownNil | refine And.intro ?_ ?_) nofun ?_
    refine Z ?_
    apply exP.mk
    exact rfl
    apply exP.mk
    exact rfl
    apply exP.mk
    exact rfl
    apply exP.mk
    exact rfl
    apply exP.mk
    exact rfl
    refine And.intro (by simp; omega) ?_
    refine eqS.mk _ rfl ?_
    rotate_left
    refine doneV.mk [] [] rfl rfl ?_ ?_ ?_
    repeat' first | exact trivial | exact rfl | exact Iff.rfl | assumption | exact pureI | exact (show _ = _ by omega) | exact (show _ ≤ _ by omega) | exact (show _ < _ by omega) | exact (show ¬ _ by omega) | refine And.intro ?_ ?_
    all_goals first | exact he | exact rfl
  · rw [if_neg he]
    by_cases h1 : 0 ≤ k ∧ k ≤ 59
    · have h2 : ¬ recOk c r := fun h => he ⟨h1, h⟩
      refine Z ?_
      refine callW.mk [] 1 _ _ _ (within_c _ _ _) rfl rfl trivial nofun ?_
      refine tN (by first | omega | assumption | exact fun h => h (by assumption) | exact fun h => h rfl | exact fun h => h Iff.rfl) ?_
      refine callW.mk [] 1 _ _ _ (IsValidRecord_c _ _ (by first | omega | assumption | (simp; omega) | (simp; done)) (by first | omega | assumption | (simp; omega) | (simp; done))) rfl rfl trivial nofun ?_
      refine tY (by first | omega | assumption | exact rfl | exact Iff.rfl) ?_
      rotate_left
      refine doneV.mk [] [] rfl rfl ?_ ?_ ?_
      repeat' first | exact trivial | exact rfl | exact Iff.rfl | assumption | exact pureI | exact (show _ = _ by omega) | exact (show _ ≤ _ by omega) | exact (show _ < _ by omega) | exact (show ¬ _ by omega) | refine And.intro ?_ ?_
      all_goals first | exact he | exact rfl
    · refine Z ?_
      refine callW.mk [] 1 _ _ _ (within_c _ _ _) rfl rfl trivial nofun ?_
      refine tY (by first | omega | assumption | exact rfl | exact Iff.rfl) ?_
      rotate_left
      refine doneV.mk [] [] rfl rfl ?_ ?_ ?_
      repeat' first | exact trivial | exact rfl | exact Iff.rfl | assumption | exact pureI | exact (show _ = _ by omega) | exact (show _ ≤ _ by omega) | exact (show _ < _ by omega) | exact (show ¬ _ by omega) | refine And.intro ?_ ?_
      all_goals first | exact he | exact rfl
theorem l12Line_c (k : Int) (c r : List UInt8) (h0 : 0 ≤ k) (hk : k < 1000000000) (h : recOk c r) : C 47 [i64 k, rec2 c r] [] (.str (lineB k c r)) [] false := by
  have h5 := text_len h0 (by omega) h
  have h7 := itoa_len h0 (d := 12) (by omega)
  have hc := h.2.1.2
  have hr := h.2.2.2.2
  have h6 := seal_len (textB k c r)
  have hS := l1Seal_c (textB k c r) (by omega)
  refine mkC false false Tryd.func47 rfl ?_
  refine And.intro nofun ?_
  refine Z ?_
  refine drawP.mkS (Z (Z ?_))
  refine Z ?_
  apply exP.mk
  exact rfl
  apply exP.mk
  refine Z ?_
  exact rfl
  apply exP.mk
  exact rfl
  apply exP.mk
  refine Z ?_
  exact rfl
  apply exP.mk
  exact rfl
  refine callW.mk [] 1 _ _ _ ((l1Num_c k h0 (by omega))) rfl rfl (by repeat' first | exact trivial | assumption | exact knownSS | exact knownApp knownSS knownNil | refine And.intro ?_ ?_) nofun ?_
  refine Z ?_
  apply exP.mk
  refine And.intro (by simp; omega) ?_
  refine eqS.mk _ rfl ?_
  exact rfl
  refine And.intro ?_ ?_
  refine Z ?_
  exact rfl
  refine Z ?_
  apply exP.mk
  refine And.intro (by simp; omega) ?_
  refine eqS.mk _ rfl ?_
  exact rfl
  apply exP.mk
  refine And.intro (by simp; omega) ?_
  refine eqS.mk _ rfl ?_
  exact rfl
  refine And.intro ?_ ?_
  refine Z ?_
  exact rfl
  refine Z ?_
  apply exP.mk
  refine And.intro (by simp; omega) ?_
  refine eqS.mk _ rfl ?_
  exact rfl
  refine callW.mk [] 1 _ _ _ (hS) rfl rfl (by repeat' first | exact trivial | assumption | exact knownSS | exact knownApp knownSS knownNil | refine And.intro ?_ ?_) nofun ?_
  refine Z ?_
  apply exP.mk
  refine And.intro (by simp; omega) ?_
  refine eqS.mk _ rfl ?_
  exact rfl
  apply exP.mk
  exact rfl
  rotate_left
  refine doneV.mk [] [] rfl rfl ?_ ?_ ?_
  repeat' first | exact trivial | exact rfl | exact Iff.rfl | assumption | exact pureI | exact (show _ = _ by omega) | exact (show _ ≤ _ by omega) | exact (show _ < _ by omega) | exact (show ¬ _ by omega) | refine And.intro ?_ ?_
  all_goals exact rfl
theorem sEncodeRecord_c (k : Int) (c r : List UInt8) (hc : c.length ≤ 1099511627) (hr : r.length ≤ 1099511627) : C 13 [i64 k, rec2 c r] [] (.tuple [.str (if encOk k c r then lineB k c r else []), pr (encOk k c r)]) [] false := by
  refine mkC false false Tryd.func13 rfl ?_
  refine And.intro nofun ?_
  by_cases he : encOk k c r
  · rw [if_pos he]
    have h1 := he.1
    have h2 := he.2
    refine Z ?_
    refine callW.mk [] 1 _ _ _ (in_c _ _ _) rfl rfl trivial nofun ?_
    refine tN (by first | omega | assumption | exact fun h => h (by assumption) | exact fun h => h rfl | exact fun h => h Iff.rfl) ?_
    refine callW.mk [] 1 _ _ _ (l12Record_c _ _ (by first | omega | assumption | (simp; omega) | (simp; done)) (by first | omega | assumption | (simp; omega) | (simp; done))) rfl rfl trivial nofun ?_
    refine tN (by first | omega | assumption | exact fun h => h (by assumption) | exact fun h => h rfl | exact fun h => h Iff.rfl) ?_
    refine callW.mk [] 1 _ _ _ ((l12Line_c k c r h1.1 (by omega) h2)) rfl rfl (by repeat' first | exact trivial | assumption | exact knownSS | exact knownApp knownSS knownNil | refine And.intro ?_ ?_) nofun ?_
    rotate_left
    refine doneV.mk [] [] rfl rfl ?_ ?_ ?_
    repeat' first | exact trivial | exact rfl | exact Iff.rfl | assumption | exact pureI | exact (show _ = _ by omega) | exact (show _ ≤ _ by omega) | exact (show _ < _ by omega) | exact (show ¬ _ by omega) | refine And.intro ?_ ?_
    all_goals first | exact he | exact rfl
  · rw [if_neg he]
    by_cases h1 : 0 ≤ k ∧ k ≤ 59
    · have h2 : ¬ recOk c r := fun h => he ⟨h1, h⟩
      refine Z ?_
      refine callW.mk [] 1 _ _ _ (in_c _ _ _) rfl rfl trivial nofun ?_
      refine tN (by first | omega | assumption | exact fun h => h (by assumption) | exact fun h => h rfl | exact fun h => h Iff.rfl) ?_
      refine callW.mk [] 1 _ _ _ (l12Record_c _ _ (by first | omega | assumption | (simp; omega) | (simp; done)) (by first | omega | assumption | (simp; omega) | (simp; done))) rfl rfl trivial nofun ?_
      refine tY (by first | omega | assumption | exact rfl | exact Iff.rfl) ?_
      rotate_left
      refine doneV.mk [] [] rfl rfl ?_ ?_ ?_
      repeat' first | exact trivial | exact rfl | exact Iff.rfl | assumption | exact pureI | exact (show _ = _ by omega) | exact (show _ ≤ _ by omega) | exact (show _ < _ by omega) | exact (show ¬ _ by omega) | refine And.intro ?_ ?_
      all_goals first | exact he | exact rfl
    · refine Z ?_
      refine callW.mk [] 1 _ _ _ (in_c _ _ _) rfl rfl trivial nofun ?_
      refine tY (by first | omega | assumption | exact rfl | exact Iff.rfl) ?_
      rotate_left
      refine doneV.mk [] [] rfl rfl ?_ ?_ ?_
      repeat' first | exact trivial | exact rfl | exact Iff.rfl | assumption | exact pureI | exact (show _ = _ by omega) | exact (show _ ≤ _ by omega) | exact (show _ < _ by omega) | exact (show ¬ _ by omega) | refine And.intro ?_ ?_
      all_goals first | exact he | exact rfl
theorem l12Decode_cY (L : List UInt8) (hL : L.length ≤ 1099511) (k : Int) (h0 : 0 ≤ k) (hk : k < 60) (h : okL2 k L) : C 74 [.str L, i64 k] [] (.tuple [rec2 (cB L) (rB L), .tt]) [] false := by
  obtain ⟨h1, h2, h3⟩ := okL_rec h0 h
  have hl := text_len h0 (by omega) h1
  have hn := rec_c h1
  have hc1 : ((cB L).length : Int) ≤ 160 := h1.2.1.2
  have hr1 : ((rB L).length : Int) ≤ 250 := h1.2.2.2.2
  have hc : (cB L).length ≤ 1099511627 := by omega
  have hr : (rB L).length ≤ 1099511627 := by omega
  have hi := itoa_len h0 (d := 12) (by omega)
  have hs1 := splitB_len 35 L
  have hb := bef_le 35 L
  rw [h3] at hb
  generalize cB L = c at *
  generalize rB L = r at *
  have hs2 := splitB_len 64 (c ++ 64 :: r)
  have hx := text_len2 (k := k) (c := c) (r := r)
  have hy : (c ++ 64 :: r).length = c.length + 1 + r.length := by simp; omega
  have e1 : (splitB 35 L)[0]'(splitB_len 35 L).2 = textB k c r := (splitB_at 35 L).trans h3
  have e5 : (splitB 64 (c ++ 64 :: r))[0]'(splitB_len 64 _).2 = c := (splitB_at 64 _).trans (bef_app hn.2.1)
  have s0 : Lib.itoa k ++ [32] = Lib.itoa k ++ [32] := rfl
  have s2 : List.drop 0 (List.take (Lib.itoa k ++ [32]).length (textB k c r)) = Lib.itoa k ++ [32] := text_take
  have s3 : List.drop (Lib.itoa k ++ [32]).length (List.take (textB k c r).length (textB k c r)) = c ++ 64 :: r := by rw [List.take_length]; exact text_drop
  have s4 : List.drop (c.length + 1) (List.take (c ++ 64 :: r).length (c ++ 64 :: r)) = r := by rw [List.take_length, show c ++ 64 :: r = (c ++ [64]) ++ r by simp]; exact List.drop_left' (by simp)
  have s5 : L ++ [10] = L ++ [10] := rfl
  refine mkC false false Tryd.func74 rfl ?_
  refine And.intro nofun ?_
  refine Z ?_
  refine callW.mk [] 1 _ _ _ ((l1Num_c k h0 (by omega))) rfl rfl (by repeat' first | exact trivial | assumption | exact knownSS | exact knownApp knownSS knownNil | refine And.intro ?_ ?_) nofun ?_
  refine And.intro (by simp; omega) ?_
  refine eqS.mk _ s0 ?_
  refine callW.mk [] 1 _ _ _ ((l1Split_c L (by omega) 35 35 rfl)) rfl rfl (by repeat' first | exact trivial | assumption | exact knownSS | exact knownApp knownSS knownNil | refine And.intro ?_ ?_) nofun ?_
  iterate 2 refine Z ?_
  refine idxN.mk 0 (by omega) (by simp; omega) rfl ?_
  refine gmv (by omega) e1 ?_
  iterate 2 refine lenS.mk _ rfl ?_
  refine tN (by first | omega | assumption | exact fun h => h (by assumption) | exact fun h => h rfl | exact fun h => h Iff.rfl) ?_
  refine lenS.mk _ rfl ?_
  refine jk (by omega) ?_
  refine eqS.mk _ s2 ?_
  refine tN (by first | omega | assumption | exact fun h => h (by assumption) | exact fun h => h rfl | exact fun h => h Iff.rfl) ?_
  refine lenS.mk _ rfl ?_
  refine jk (by omega) ?_
  refine eqS.mk _ s3 ?_
  refine callW.mk [] 2 _ _ _ ((l1Split_c (c ++ 64 :: r) (by omega) 64 64 rfl)) rfl rfl (by repeat' first | exact trivial | assumption | exact knownSS | exact knownApp knownSS knownNil | refine And.intro ?_ ?_) nofun ?_
  iterate 2 refine Z ?_
  refine idxN.mk 0 (by omega) (by simp; omega) rfl ?_
  refine gmv (by omega) e5 ?_
  iterate 2 refine lenS.mk _ rfl ?_
  refine tN (by first | omega | assumption | exact fun h => h (by assumption) | exact fun h => h rfl | exact fun h => h Iff.rfl) ?_
  refine lenS.mk _ rfl ?_
  refine nw (by omega) (by omega) ?_
  refine jp (by omega) ?_
  refine eqS.mk _ s4 ?_
  iterate 12 refine Z ?_
  refine drawP.mkT 11 (Z (Z (Z (Z ?_))))
  apply exP.mk
  exact rfl
  apply exP.mk
  exact rfl
  apply exP.mk
  refine callP.mk _ _ _ (l12Record_c _ _ (by first | omega | assumption | (simp; omega) | (simp; done)) (by first | omega | assumption | (simp; omega) | (simp; done))) trivial nofun trivial ?_
  exact rfl
  apply exP.mk
  exact rfl
  refine tY (by first | omega | assumption | exact rfl | exact Iff.rfl) ?_
  apply exP.mk
  exact rfl
  apply exP.mk
  exact rfl
  apply exP.mk
  refine callP.mk _ _ _ ((l12Line_c k c r h0 (by omega) h1)) (by repeat' first | exact trivial | assumption | exact knownSS | exact knownApp knownSS knownNil | refine And.intro ?_ ?_) nofun trivial ?_
  exact rfl
  apply exP.mk
  exact rfl
  apply exP.mk
  refine And.intro (by simp; omega) ?_
  refine eqS.mk _ s5 ?_
  exact rfl
  apply exP.mk
  exact rfl
  refine And.intro (by repeat' first | exact rfl | refine And.intro ?_ ?_) ?_
  iterate 4 refine Z ?_
  rotate_left
  refine doneV.mk [] [] rfl rfl ?_ ?_ ?_
  repeat' first | exact trivial | exact rfl | exact Iff.rfl | assumption | exact pureI | exact (show _ = _ by omega) | exact (show _ ≤ _ by omega) | exact (show _ < _ by omega) | exact (show ¬ _ by omega) | refine And.intro ?_ ?_
theorem l12Decode_cN (L : List UInt8) (hL : L.length ≤ 1099511) (k : Int) (h0 : 0 ≤ k) (hk : k < 60) (h : ¬ okL2 k L) : CE 74 [.str L, i64 k] [] (fun _ : List UInt8 × List UInt8 => True) (fun e => .tuple [rcv e, .ff]) (fun _ => []) false := by
  have hi := itoa_len h0 (d := 12) (by omega)
  have hs1 := splitB_len 35 L
  have hb := bef_le 35 L
  have e1 : (splitB 35 L)[0]'(splitB_len 35 L).2 = bef 35 L := splitB_at 35 L
  generalize ht : bef 35 L = t at *
  obtain ⟨rest, hrest⟩ : ∃ rest, List.drop (Lib.itoa k ++ [32]).length (List.take t.length t) = rest := ⟨_, rfl⟩
  have hb2 := bef_le 64 rest
  have hs2 := splitB_len 64 rest
  have hrl : rest.length ≤ 1099511 := by
    rw [← hrest]
    simp
    omega
  have e5 : (splitB 64 rest)[0]'(splitB_len 64 _).2 = bef 64 rest := splitB_at 64 rest
  have s0 : Lib.itoa k ++ [32] = Lib.itoa k ++ [32] := rfl
  have s5 : L ++ [10] = L ++ [10] := rfl
  have s6 : List.drop ((bef 64 rest).length + 1) (List.take rest.length rest) = aft 64 rest := by rw [List.take_length]; rfl
  have hal : (aft 64 rest).length ≤ 1099511627 := by
    unfold aft
    simp
    omega
  refine mkE false false Tryd.func74 rfl ?_
  refine And.intro nofun ?_
  refine Z ?_
  refine callW.mk [] 1 _ _ _ ((l1Num_c k h0 (by omega))) rfl rfl (by repeat' first | exact trivial | assumption | exact knownSS | exact knownApp knownSS knownNil | refine And.intro ?_ ?_) nofun ?_
  refine And.intro (by simp; omega) ?_
  refine eqS.mk _ s0 ?_
  refine callW.mk [] 1 _ _ _ ((l1Split_c L (by omega) 35 35 rfl)) rfl rfl (by repeat' first | exact trivial | assumption | exact knownSS | exact knownApp knownSS knownNil | refine And.intro ?_ ?_) nofun ?_
  iterate 2 refine Z ?_
  refine idxN.mk 0 (by omega) (by simp; omega) rfl ?_
  refine gmv (by omega) e1 ?_
  iterate 2 refine lenS.mk _ rfl ?_
  refine twoP.mk (fun _ => ?_) (fun _ => ?_)
  iterate 5 refine Z ?_
  rotate_left
  refine lenS.mk _ rfl ?_
  refine jk (by omega) ?_
  refine eqS.mk _ rfl ?_
  refine twoN (fun _ => ?_) (fun _ => ?_)
  iterate 5 refine Z ?_
  rotate_left
  refine lenS.mk _ rfl ?_
  refine jk (by omega) ?_
  refine eqS.mk _ hrest ?_
  refine callW.mk [] 2 _ _ _ ((l1Split_c rest (by omega) 64 64 rfl)) rfl rfl (by repeat' first | exact trivial | assumption | exact knownSS | exact knownApp knownSS knownNil | refine And.intro ?_ ?_) nofun ?_
  iterate 2 refine Z ?_
  refine idxN.mk 0 (by omega) (by simp; omega) rfl ?_
  refine gmv (by omega) e5 ?_
  iterate 2 refine lenS.mk _ rfl ?_
  refine twoP.mk (fun _ => ?_) (fun _ => ?_)
  iterate 5 refine Z ?_
  rotate_left
  refine lenS.mk _ rfl ?_
  refine nw (by omega) (by omega) ?_
  refine jp (by omega) ?_
  refine eqS.mk _ s6 ?_
  iterate 12 refine Z ?_
  refine drawP.mkT 11 (Z (Z (Z (Z ?_))))
  apply exP.mk
  exact rfl
  apply exP.mk
  exact rfl
  apply exP.mk
  refine callP.mk _ _ _ (l12Record_c _ _ (by first | omega | assumption | (simp; omega) | (simp; done)) (by first | omega | assumption | (simp; omega) | (simp; done))) trivial nofun trivial ?_
  exact rfl
  apply exP.mk
  exact rfl
  refine twoP.mk (fun _ => ?_) (fun _ => ?_)
  apply exP.mk
  exact rfl
  apply exP.mk
  exact rfl
  apply exP.mk
  refine callP.mk _ _ _ (l12Line_c _ _ _ (by first | omega | assumption | (simp; omega) | (simp; done)) (by first | omega | assumption | (simp; omega) | (simp; done)) (by first | omega | assumption | (simp; omega) | (simp; done))) trivial nofun trivial ?_
  exact rfl
  apply exP.mk
  exact rfl
  apply exP.mk
  refine And.intro (by simp; omega) ?_
  refine eqS.mk _ s5 ?_
  exact rfl
  apply exP.mk
  exact rfl
  refine And.intro (by repeat' first | exact rfl | refine And.intro ?_ ?_) ?_
  iterate 4 refine Z ?_
  rotate_left
  refine And.intro (by repeat' first | exact rfl | refine And.intro ?_ ?_) ?_
  iterate 4 refine Z ?_
  rotate_left
  · refine doneE.mk (([], [])) ?_ ?_
    rotate_left
    focus
      refine doneV.mk [] [] rfl rfl ?_ ?_ ?_
      repeat' first | exact trivial | exact rfl | exact Iff.rfl | assumption | exact pureI | exact (show _ = _ by omega) | exact (show _ ≤ _ by omega) | exact (show _ < _ by omega) | exact (show ¬ _ by omega) | refine And.intro ?_ ?_
    rotate_right
    all_goals first | exact trivial | exact rfl
  · refine doneE.mk (([], [])) ?_ ?_
    rotate_left
    focus
      refine doneV.mk [] [] rfl rfl ?_ ?_ ?_
      repeat' first | exact trivial | exact rfl | exact Iff.rfl | assumption | exact pureI | exact (show _ = _ by omega) | exact (show _ ≤ _ by omega) | exact (show _ < _ by omega) | exact (show ¬ _ by omega) | refine And.intro ?_ ?_
    rotate_right
    all_goals first | exact trivial | exact rfl
  · refine doneE.mk (([], [])) ?_ ?_
    rotate_left
    focus
      refine doneV.mk [] [] rfl rfl ?_ ?_ ?_
      repeat' first | exact trivial | exact rfl | exact Iff.rfl | assumption | exact pureI | exact (show _ = _ by omega) | exact (show _ ≤ _ by omega) | exact (show _ < _ by omega) | exact (show ¬ _ by omega) | refine And.intro ?_ ?_
    rotate_right
    all_goals first | exact trivial | exact rfl
  · rename_i h1 h2 h3 h4
    refine doneE.mk ((bef 64 rest, aft 64 rest)) ?_ ?_
    rotate_left
    focus
      refine doneV.mk [] [] rfl rfl ?_ ?_ ?_
      repeat' first | exact trivial | exact rfl | exact Iff.rfl | assumption | exact pureI | exact (show _ = _ by omega) | exact (show _ ≤ _ by omega) | exact (show _ < _ by omega) | exact (show ¬ _ by omega) | refine And.intro ?_ ?_
    rotate_right
    all_goals first | exact trivial | exact fun x => h (okL_of h4 x)
  · refine doneE.mk ((bef 64 rest, aft 64 rest)) ?_ ?_
    rotate_left
    focus
      refine doneV.mk [] [] rfl rfl ?_ ?_ ?_
      repeat' first | exact trivial | exact rfl | exact Iff.rfl | assumption | exact pureI | exact (show _ = _ by omega) | exact (show _ ≤ _ by omega) | exact (show _ < _ by omega) | exact (show ¬ _ by omega) | refine And.intro ?_ ?_
    rotate_right
    all_goals first | exact trivial | exact rfl
end Sx
