/- Plain words: logs that grow, and what a crash leaves. -/
import Derived.Test.YtfhklahhkjahiaaDoorMxS
set_option linter.all false
namespace Sx
open Go
theorem ln_L1 {D P : List UInt8} {j : Nat} (h : ∀ i < j, goodB D i) : ∀ i < j, lnB (D ++ P) i = lnB D i := fun i hi => by
  obtain ⟨h1, _⟩ := good_L1 (P := P) h
  have ha : atB D i ≤ D.length := at_le fun x hx => h x (by omega)
  unfold lnB
  rw [h1 i (by omega), line_in ha]
  exact bef_appL (h i hi).1
theorem recs_L1 {D P : List UInt8} {j : Nat} (h : ∀ i < j, goodB D i) : recsTo (D ++ P) j = recsTo D j := by
  unfold recsTo
  refine List.map_congr_left fun i hi => ?_
  have hi := List.mem_range.1 hi
  unfold recB
  rw [ln_L1 h i hi]
theorem at_mono {s : List UInt8} {i j : Nat} (h : i ≤ j) : atB s i ≤ atB s j := by
  induction j with
  | zero => rw [Nat.le_zero.1 h]; exact Nat.le_refl _
  | succ j ih =>
    by_cases e : i = j + 1
    · subst e; exact Nat.le_refl _
    · have := ih (by omega)
      show _ ≤ atB s j + (bef 10 (s.drop (atB s j))).length + 1
      omega
theorem ln_len {s : List UInt8} {j : Nat} (hj : j < 60) (h : goodB s j) : (lnB s j).length + 1 ≤ 440 := by
  obtain ⟨c, r, h1, h2⟩ := h.2
  have := line_len (k := (j : Int)) (by omega) (by omega) h1
  unfold lineB at this
  rw [h2, List.length_append, List.length_singleton] at this
  exact this
theorem at_len {s : List UInt8} {j : Nat} (hj : j ≤ 60) (h : ∀ i < j, goodB s i) : atB s j ≤ 440 * j := by
  induction j with
  | zero => exact Nat.le_refl _
  | succ j ih =>
    have h1 := ih (by omega) fun i hi => h i (by omega)
    have h2 := ln_len (by omega) (h j (by omega))
    show atB s j + (lnB s j).length + 1 ≤ _
    omega
theorem good_end {s : List UInt8} {j : Nat} (h : atB s j = s.length) : ¬ goodB s j := fun g => by
  have := g.1
  rw [h, List.drop_length] at this
  cases this
theorem cnt_ge {s : List UInt8} {j : Nat} (hj : j ≤ 60) (h : ∀ i < j, goodB s i) : j ≤ cntB s := by
  rcases Nat.lt_or_ge (cntB s) j with e | e
  · exact absurd (h _ e) ((cnt_spec s).2.2 (by omega))
  · exact e
/-- A log with a record more. -/
theorem log_more {D P c r : List UInt8} {n : Int} (h : apOk D P n c r) : logOk D (P ++ lineB n c r) (n + 1) ∧ recsB (D ++ (P ++ lineB n c r)) = recsB (D ++ P) ++ [(c, r)] := by
  obtain ⟨⟨⟨h1, h2, h3, h4⟩, hr⟩, hn⟩ := h
  have hs := cnt_spec (D ++ P)
  generalize hj : cntB (D ++ P) = j at *
  have hnj : n = (j : Int) := h4.symm
  subst hnj
  have hj60 : j < 60 := by omega
  have hl : (D ++ P).length = atB (D ++ P) j := by rw [List.length_append]; omega
  have e : D ++ (P ++ lineB (j : Int) c r) = (D ++ P) ++ lineB (j : Int) c r := (List.append_assoc _ _ _).symm
  obtain ⟨g1, g2⟩ := good_L1 (P := lineB (j : Int) c r) hs.2.1
  have h10 : (10 : UInt8) ∉ sealB (textB (j : Int) c r) := seal_no10 (text_no10 (by omega) hr)
  have hd : ((D ++ P) ++ lineB (j : Int) c r).drop (atB ((D ++ P) ++ lineB (j : Int) c r) j) = lineB (j : Int) c r := by
    rw [g1 j (Nat.le_refl _), ← hl, List.drop_left' rfl]
  have hb : bef 10 (lineB (j : Int) c r) = sealB (textB (j : Int) c r) := by unfold lineB; exact bef_app h10
  have hln : lnB ((D ++ P) ++ lineB (j : Int) c r) j = sealB (textB (j : Int) c r) := by unfold lnB; rw [hd, hb]
  have hg : goodB ((D ++ P) ++ lineB (j : Int) c r) j := by
    refine ⟨?_, ?_⟩
    · rw [hd]; unfold lineB; simp
    · rw [hln]; exact ⟨c, r, hr, rfl⟩
  have hall : ∀ i < j + 1, goodB ((D ++ P) ++ lineB (j : Int) c r) i := good_more g2 hg
  have hat : atB ((D ++ P) ++ lineB (j : Int) c r) (j + 1) = ((D ++ P) ++ lineB (j : Int) c r).length := by
    rw [at_succ hd, hb, g1 j (Nat.le_refl _), ← hl]
    unfold lineB
    simp only [List.length_append, List.length_singleton]
    omega
  have hc := cnt_stop (by omega) hall (good_end hat)
  have hle := at_len (by omega) hall
  have hlen : ((D ++ P) ++ lineB (j : Int) c r).length = D.length + (P ++ lineB (j : Int) c r).length := by simp only [List.length_append]; omega
  refine ⟨⟨by omega, ?_, h3, ?_⟩, ?_⟩
  · rw [e, hc, hat, hlen]; omega
  · rw [e, hc]; omega
  · rw [e, recsB_eq hc, recsB_eq hj, recsTo_succ, recs_L1 hs.2.1]
    unfold recB
    obtain ⟨_, p2, p3⟩ := parse (k := (j : Int)) (by omega) hr rfl
    rw [hln, p2, p3]
/-- A log whose records are durable. -/
theorem log_sync {D P : List UInt8} {n : Int} (h : logOk D P n) : logOk (D ++ P) [] n ∧ recsB ((D ++ P) ++ []) = recsB (D ++ P) := by
  obtain ⟨h1, h2, h3, h4⟩ := h
  have e : (D ++ P).length = D.length + P.length := List.length_append
  refine ⟨⟨?_, ?_, ?_, ?_⟩, by rw [List.append_nil]⟩
  · rw [List.length_nil]; omega
  · rw [List.append_nil, List.length_nil]; omega
  · omega
  · rw [List.append_nil]; exact h4
theorem recs_lenX (s : List UInt8) : (recsB s).length = cntB s ∧ cntB s ≤ 60 := ⟨by simp [recsB], (cnt_spec s).1⟩
/-- The start of a text, up to the end of its last record. -/
theorem rcv_log {s : List UInt8} (hs : s.length ≤ 30000) : logOk (rcvS s) [] (rcvC s) ∧ ((rcvS s).length : Int) = rcvN s ∧ recsB (rcvS s ++ []) = recsB s := by
  have hc := cnt_spec s
  have ha := at_le hc.2.1
  rw [rcvS_yes hs, rcvC_yes hs, rcvN_yes hs]
  generalize hj : cntB s = j at *
  have hl : (s.take (atB s j)).length = atB s j := by rw [List.length_take]; omega
  have es : s.take (atB s j) ++ s.drop (atB s j) = s := List.take_append_drop _ _
  obtain ⟨g1, g2⟩ := good_L2 (D := s.take (atB s j)) (P := s.drop (atB s j)) (j := j) (by rw [es]; exact hc.2.1) (by rw [es, hl]; exact Nat.le_refl _)
  rw [es] at g2
  have hat : atB (s.take (atB s j)) j = (s.take (atB s j)).length := by rw [g2 j (Nat.le_refl _), hl]
  have hcn := cnt_stop hc.1 g1 (good_end hat)
  refine ⟨⟨?_, ?_, ?_, ?_⟩, by omega, ?_⟩
  · rw [List.length_nil]; omega
  · rw [List.append_nil, List.length_nil, hcn, hat]; omega
  · rw [hcn, hat]
  · rw [List.append_nil, hcn]
  · rw [List.append_nil, recsB_eq hcn, recsB_eq hj]
    conv => rhs; rw [← es]
    exact (recs_L1 g1).symm
theorem itoa_small2 {k : Int} (h0 : 0 ≤ k) : ∀ b ∈ Lib.itoa k, b.toNat ≤ 126 := fun b hb => by have := itoa_digits h0 b hb; omega
theorem seal_small {k : Int} (h0 : 0 ≤ k) {c r : List UInt8} (h : recOk c r) : ∀ b ∈ sealB (textB k c r), b.toNat ≤ 126 := fun b hb => by
  obtain ⟨_, ⟨h2, _⟩, _, h4, _⟩ := h
  unfold sealB textB at hb
  simp only [List.mem_append, List.mem_singleton] at hb
  rcases hb with ((((((hb | hb) | hb) | hb) | hb) | hb) | hb)
  · exact itoa_small2 h0 b hb
  · subst hb; decide
  · exact (h2 b hb).2.1
  · subst hb; decide
  · exact (h4 b hb).2.1
  · subst hb; decide
  · exact itoa_small2 (sum_range _).1 b hb
theorem at_small {s : List UInt8} {j : Nat} (h : ∀ i < j, goodB s i) : ∀ b ∈ s.take (atB s j), b.toNat ≤ 126 := by
  induction j with
  | zero => intro b hb; simp [atB] at hb
  | succ j ih =>
    intro b hb
    have hg := h j (by omega)
    have h1 := ih fun i hi => h i (by omega)
    obtain ⟨X, hX⟩ : ∃ X, s.drop (atB s j) = X := ⟨_, rfl⟩
    have hm : (10 : UInt8) ∈ X := by rw [← hX]; exact hg.1
    have hsp := (split_eq hm).1
    have e : atB s (j + 1) = atB s j + ((bef 10 X).length + 1) := by rw [at_succ hX]; omega
    have e2 : X.take ((bef 10 X).length + 1) = bef 10 X ++ [10] := by
      have h7 : X.take ((bef 10 X).length + 1) = (bef 10 X ++ 10 :: aft 10 X).take ((bef 10 X).length + 1) := congrArg (fun l => l.take ((bef 10 X).length + 1)) hsp
      rw [h7, show bef 10 X ++ 10 :: aft 10 X = (bef 10 X ++ [10]) ++ aft 10 X by simp, List.take_left' (by simp)]
    rw [e, List.take_add, hX, e2] at hb
    rcases List.mem_append.1 hb with hb | hb
    · exact h1 b hb
    · rcases List.mem_append.1 hb with hb | hb
      · obtain ⟨c, r, k1, k2⟩ := hg.2
        have hb' : b ∈ lnB s j := by unfold lnB; rw [hX]; exact hb
        rw [← k2] at hb'
        exact seal_small (by omega) k1 b hb'
      · have := List.mem_singleton.1 hb
        subst this; decide
/-- The end of a line that is read is a line feed. -/
theorem at_nl {s : List UInt8} {j : Nat} (h : goodB s j) : s[atB s (j + 1) - 1]? = some 10 := by
  obtain ⟨X, hX⟩ : ∃ X, s.drop (atB s j) = X := ⟨_, rfl⟩
  have hm : (10 : UInt8) ∈ X := by rw [← hX]; exact h.1
  have hsp := (split_eq hm).1
  have e : atB s (j + 1) - 1 = atB s j + (bef 10 X).length := by rw [at_succ hX]; omega
  rw [e, ← List.getElem?_drop, hX]
  have h7 : X[(bef 10 X).length]? = (bef 10 X ++ 10 :: aft 10 X)[(bef 10 X).length]? := congrArg (fun l => l[(bef 10 X).length]?) hsp
  rw [h7, List.getElem?_append_right (Nat.le_refl _), Nat.sub_self]
  rfl
theorem recsTo_take {s : List UInt8} {k m : Nat} (h : k ≤ m) : recsTo s k = (recsTo s m).take k := by
  unfold recsTo
  rw [← List.map_take, List.take_range, Nat.min_eq_left h]
theorem flip_end {b : List UInt8} {q : Nat} (h0 : 0 < q) (h : q ≤ b.length) : flipB (b.take q) (q - 1) = b.take (q - 1) ++ [UInt8.ofNat (255 - (b.getD (q - 1) 0).toNat)] := by
  unfold flipB
  have e : b.take q = b.take (q - 1) ++ [b.getD (q - 1) 0] := by
    rw [getD_at (by omega)]
    have := take_snoc (l := b) (k := q - 1) (by omega)
    rw [show q - 1 + 1 = q by omega] at this
    exact this
  have hl : (b.take (q - 1)).length = q - 1 := by rw [List.length_take]; omega
  have e1 : (b.take q).getD (q - 1) 0 = b.getD (q - 1) 0 := by
    rw [getD_at (by rw [List.length_take]; omega), getD_at (by omega), List.getElem_take]
  rw [e1]
  conv => lhs; arg 1; rw [e]
  rw [List.set_append_right _ _ (by omega), hl, Nat.sub_self]
  rfl
theorem pre_recs {s0 X Y : List UInt8} {k : Nat} (hk : k ≤ 60) (h : ∀ i < k, goodB s0 i) : recsTo (s0 ++ X) k = recsTo (s0 ++ Y) k ∧ k ≤ cntB (s0 ++ Y) :=
  ⟨by rw [recs_L1 h, recs_L1 h], cnt_ge hk (good_L1 h).2⟩
theorem crash {D P : List UInt8} {n q : Int} {t : Bool} (h : crOk D P n q) (s : List UInt8) (hs : s = leftB D P q.toNat t) :
    s.length ≤ 30000 ∧ (D.length : Int) ≤ rcvN s ∧ recsB s = (recsB (D ++ P)).take (cntB s) ∧ cntB s ≤ cntB (D ++ P) ∧ (¬ t = true → (P.length : Int) ≤ q → cntB s = cntB (D ++ P)) := by
  obtain ⟨⟨h1, h2, h3, h4⟩, h5, h6⟩ := h
  have hD := cnt_spec D
  have hc := cnt_spec s
  have hX : ∃ X, s = D ++ X ∧ X.length = q.toNat := by
    rw [hs]; unfold leftB; split
    · exact ⟨_, rfl, by rw [flip_len, List.length_take]; omega⟩
    · exact ⟨_, rfl, by rw [List.length_take]; omega⟩
  obtain ⟨X, hX, hXl⟩ := hX
  have hsl : s.length ≤ 30000 := by rw [hX, List.length_append]; omega
  have hcore : ∃ s0 Y Z, s = s0 ++ Y ∧ D ++ P = s0 ++ Z ∧ ∀ i < cntB s, goodB s0 i := by
    by_cases ht : t = true ∧ 0 < q.toNat
    · have e : s = (D ++ P.take (q.toNat - 1)) ++ [UInt8.ofNat (255 - (P.getD (q.toNat - 1) 0).toNat)] := by
        rw [hs]; unfold leftB
        rw [if_pos ht, flip_end ht.2 (by omega), List.append_assoc]
      refine ⟨_, _, P.drop (q.toNat - 1), e, by rw [List.append_assoc, List.take_append_drop], ?_⟩
      generalize D ++ P.take (q.toNat - 1) = s0 at e
      have hbyte : (P.getD (q.toNat - 1) 0).toNat ≤ 126 := by
        have hm : P.getD (q.toNat - 1) 0 ∈ D ++ P := List.mem_append.2 (.inr (mem_at (by omega)))
        have hf := at_small (cnt_spec (D ++ P)).2.1
        rw [List.take_of_length_le (by rw [List.length_append]; omega)] at hf
        exact hf _ hm
      generalize P.getD (q.toNat - 1) 0 = b at e hbyte
      have hle := at_le hc.2.1
      have hl : s.length = s0.length + 1 := by rw [e]; simp
      have hend : atB s (cntB s) ≤ s0.length := by
        rcases Nat.lt_or_ge s0.length (atB s (cntB s)) with hlt | hge
        · exfalso
          have hk : 0 < cntB s := by
            rcases Nat.eq_zero_or_pos (cntB s) with e0 | e0
            · rw [e0] at hlt; exact absurd hlt (by show ¬ _ < 0; omega)
            · exact e0
          have hn := at_nl (hc.2.1 (cntB s - 1) (by omega))
          rw [show cntB s - 1 + 1 = cntB s by omega, show atB s (cntB s) - 1 = s0.length by omega, e, List.getElem?_append_right (Nat.le_refl _), Nat.sub_self] at hn
          have hn2 : UInt8.ofNat (255 - b.toNat) = 10 := Option.some.inj hn
          have hn3 := congrArg UInt8.toNat hn2
          rw [UInt8.toNat_ofNat_of_lt' (by show _ < 256; omega)] at hn3
          have : (10 : UInt8).toNat = 10 := rfl
          omega
        · exact hge
      have := good_L2 (D := s0) (P := [UInt8.ofNat (255 - b.toNat)]) (j := cntB s) (by rw [← e]; exact hc.2.1) (by rw [← e]; exact hend)
      exact this.1
    · have e : s = D ++ P.take q.toNat := by rw [hs]; unfold leftB; rw [if_neg ht]
      refine ⟨s, [], P.drop q.toNat, (List.append_nil _).symm, by rw [e, List.append_assoc, List.take_append_drop], hc.2.1⟩
  obtain ⟨s0, Y, Z, e1, e2, hg⟩ := hcore
  have hp := pre_recs (X := Y) (Y := Z) hc.1 hg
  rw [← e1, ← e2] at hp
  refine ⟨hsl, ?_, ?_, hp.2, ?_⟩
  · rw [rcvN_yes hsl]
    obtain ⟨g1, g2⟩ := good_L1 (P := X) hD.2.1
    rw [← hX] at g1 g2
    have h7 := g1 _ (Nat.le_refl _)
    have h8 := at_mono (s := s) (cnt_ge hD.1 g2)
    omega
  · rw [recsB_eq rfl, hp.1, recsTo_take hp.2]
    rfl
  · intro ht hq
    have e : s = D ++ P := by
      rw [hs]; unfold leftB
      rw [if_neg (fun x => ht x.1), List.take_of_length_le (by omega)]
    rw [e]
theorem ap_yes {D P c r : List UInt8} {n : Int} (h : apOk D P n c r) : apP D P n c r = P ++ lineB n c r ∧ apN D P n c r = n + 1 ∧ apC D P n c r = 0 := ⟨if_pos h, if_pos h, if_pos h⟩
theorem ap_no {D P c r : List UInt8} {n : Int} (h : ¬ apOk D P n c r) : apP D P n c r = P ∧ apN D P n c r = n ∧ apC D P n c r ≠ 0 := ⟨if_neg h, if_neg h, by
  unfold apC
  rw [if_neg h]
  split <;> decide⟩
theorem ap_bd {D P c r : List UInt8} {n : Int} (h : 0 ≤ n ∧ n ≤ 60) : (apP D P n c r).length ≤ P.length + 440 ∧ 0 ≤ apN D P n c r ∧ apN D P n c r ≤ 60 := by
  unfold apP apN
  by_cases hk : apOk D P n c r
  · rw [if_pos hk, if_pos hk, List.length_append]
    have h1 := line_len (k := n) h.1 (by omega) hk.1.2
    have h2 := hk.2
    omega
  · rw [if_neg hk, if_neg hk]
    omega
theorem sy_bd {D P : List UInt8} {n : Int} (h : 0 ≤ n ∧ n ≤ 60) : (if logOk D P n then D ++ P else []).length ≤ D.length + P.length ∧ 0 ≤ (if logOk D P n then n else 0) ∧ (if logOk D P n then n else 0) ≤ 60 := by
  by_cases hk : logOk D P n
  · rw [if_pos hk, if_pos hk, List.length_append]; omega
  · rw [if_neg hk, if_neg hk]; exact ⟨Nat.zero_le _, Int.le_refl _, by decide⟩
end Sx
