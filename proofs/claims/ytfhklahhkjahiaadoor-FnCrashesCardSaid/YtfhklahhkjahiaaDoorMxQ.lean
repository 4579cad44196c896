/- Plain words: records in a text. -/
import Derived.Test.YtfhklahhkjahiaaDoorMxP
set_option linter.all false
namespace Sx
open Go
def textB (k : Int) (c r : List UInt8) : List UInt8 := Lib.itoa k ++ [32] ++ c ++ [64] ++ r
def lineB (k : Int) (c r : List UInt8) : List UInt8 := sealB (textB k c r) ++ [10]
theorem notin {p : UInt8 → Prop} {s : List UInt8} (h : ∀ b ∈ s, p b) {x : UInt8} (hx : ¬ p x) : x ∉ s := fun m => hx (h x m)
theorem itoa_not {k : Int} (h0 : 0 ≤ k) {x : UInt8} (hx : ¬ (48 ≤ x.toNat ∧ x.toNat ≤ 57)) : x ∉ Lib.itoa k := notin (itoa_digits h0) hx
theorem rec_c {c r : List UInt8} (h : recOk c r) : (35 : UInt8) ∉ c ∧ (64 : UInt8) ∉ c ∧ (35 : UInt8) ∉ r ∧ (10 : UInt8) ∉ c ∧ (10 : UInt8) ∉ r := by
  obtain ⟨h1, ⟨h2, _⟩, h3, h4, _⟩ := h
  refine ⟨fun m => (h2 _ m).2.2 rfl, fun m => h3 ⟨_, m, rfl⟩, fun m => (h4 _ m).2.2 rfl, fun m => ?_, fun m => ?_⟩
  · have := (h2 _ m).1
    exact absurd this (by decide)
  · have := (h4 _ m).1
    exact absurd this (by decide)
theorem text_no {k : Int} (h0 : 0 ≤ k) {c r : List UInt8} (h : recOk c r) : (35 : UInt8) ∉ textB k c r := by
  obtain ⟨h1, _, h3, _⟩ := rec_c h
  have hi : (35 : UInt8) ∉ Lib.itoa k := itoa_not h0 (by decide)
  simp [textB, h1, h3, hi]
theorem text_no10 {k : Int} (h0 : 0 ≤ k) {c r : List UInt8} (h : recOk c r) : (10 : UInt8) ∉ textB k c r := by
  obtain ⟨_, _, _, h1, h3⟩ := rec_c h
  have hi : (10 : UInt8) ∉ Lib.itoa k := itoa_not h0 (by decide)
  simp [textB, h1, h3, hi]
theorem seal_no10 {s : List UInt8} (h : (10 : UInt8) ∉ s) : (10 : UInt8) ∉ sealB s := by
  have hi : (10 : UInt8) ∉ Lib.itoa (sumB s) := itoa_not (sum_range s).1 (by decide)
  simp [sealB, h, hi]
theorem text_len {k : Int} (h0 : 0 ≤ k) (hk : k < 1000000000000) {c r : List UInt8} (h : recOk c r) : (textB k c r).length ≤ 425 := by
  have := itoa_len h0 (d := 12) (by omega)
  have h2 := h.2.1.2
  have h3 := h.2.2.2.2
  simp [textB]
  omega
theorem text_ac {k : Int} (h0 : 0 ≤ k) (hk : k < 1000000000000) {c r : List UInt8} (h : recOk c r) : acOk (textB k c r) := by
  have h1 := text_len h0 hk h
  have h2 := seal_len (textB k c r)
  exact ⟨by omega, text_no h0 h, by omega⟩
theorem seal_bef {t : List UInt8} (h : (35 : UInt8) ∉ t) : bef 35 (sealB t) = t := by
  unfold sealB
  rw [List.append_assoc]
  exact bef_app h
theorem text_bef {k : Int} (h0 : 0 ≤ k) {c r : List UInt8} : bef 32 (textB k c r) = Lib.itoa k ∧ aft 32 (textB k c r) = c ++ 64 :: r := by
  have hi : (32 : UInt8) ∉ Lib.itoa k := itoa_not h0 (by decide)
  have e : textB k c r = Lib.itoa k ++ 32 :: (c ++ 64 :: r) := by simp [textB]
  rw [e]
  exact ⟨bef_app hi, aft_app hi⟩
theorem text_eq {k : Int} {c r : List UInt8} : textB k c r = (Lib.itoa k ++ [32]) ++ (c ++ 64 :: r) := by simp [textB]
theorem text_take {k : Int} {c r : List UInt8} : List.take (Lib.itoa k ++ [32]).length (textB k c r) = Lib.itoa k ++ [32] := by rw [text_eq, List.take_left' rfl]
theorem text_drop {k : Int} {c r : List UInt8} : List.drop (Lib.itoa k ++ [32]).length (textB k c r) = c ++ 64 :: r := by rw [text_eq, List.drop_left' rfl]
theorem text_len2 {k : Int} {c r : List UInt8} : (textB k c r).length = (Lib.itoa k ++ [32]).length + c.length + 1 + r.length := by simp [textB]; omega
def encOk (k : Int) (c r : List UInt8) : Prop := (0 ≤ k ∧ k ≤ 59) ∧ recOk c r
instance (k : Int) (c r : List UInt8) : Decidable (encOk k c r) := by unfold encOk; infer_instance
/-- A line holds a record. -/
def okL2 (k : Int) (L : List UInt8) : Prop := ∃ c r, recOk c r ∧ sealB (textB k c r) = L
noncomputable instance (k : Int) (L : List UInt8) : Decidable (okL2 k L) := Classical.propDecidable _
def cB (L : List UInt8) : List UInt8 := bef 64 (aft 32 (bef 35 L))
def rB (L : List UInt8) : List UInt8 := aft 64 (aft 32 (bef 35 L))
theorem parse {k : Int} (h0 : 0 ≤ k) {c r L : List UInt8} (h : recOk c r) (hL : sealB (textB k c r) = L) : bef 35 L = textB k c r ∧ cB L = c ∧ rB L = r := by
  subst hL
  have e := seal_bef (text_no h0 h)
  obtain ⟨_, h2, _⟩ := rec_c h
  refine ⟨e, ?_, ?_⟩
  · unfold cB
    rw [e, (text_bef h0).2, bef_app h2]
  · unfold rB
    rw [e, (text_bef h0).2, aft_app h2]
theorem okL_rec {k : Int} (h0 : 0 ≤ k) {L : List UInt8} (h : okL2 k L) : recOk (cB L) (rB L) ∧ lineB k (cB L) (rB L) = L ++ [10] ∧ bef 35 L = textB k (cB L) (rB L) := by
  obtain ⟨c, r, h1, h2⟩ := h
  obtain ⟨e1, e2, e3⟩ := parse h0 h1 h2
  rw [e1, e2, e3]
  exact ⟨h1, by rw [lineB, h2], rfl⟩
theorem okL_of {k : Int} {c r L : List UInt8} (h : recOk c r) (hL : lineB k c r = L ++ [10]) : okL2 k L := by
  refine ⟨c, r, h, ?_⟩
  unfold lineB at hL
  exact (List.append_inj_left' hL rfl)
theorem okL_vc {k : Int} (h0 : 0 ≤ k) (hk : k < 1000000000000) {L : List UInt8} (h : okL2 k L) : vcOk L := by
  obtain ⟨h1, h2, h3⟩ := okL_rec h0 h
  refine ⟨by rw [h3]; exact text_ac h0 hk h1, ?_⟩
  rw [h3]
  unfold lineB at h2
  exact List.append_inj_left' h2 rfl
/-- Where the j-th line begins, and what it is. -/
def atB (s : List UInt8) : Nat → Nat
  | 0 => 0
  | j + 1 => atB s j + (bef 10 (s.drop (atB s j))).length + 1
def lnB (s : List UInt8) (j : Nat) : List UInt8 := bef 10 (s.drop (atB s j))
def goodB (s : List UInt8) (j : Nat) : Prop := (10 : UInt8) ∈ s.drop (atB s j) ∧ okL2 (j : Int) (lnB s j)
noncomputable instance (s : List UInt8) (j : Nat) : Decidable (goodB s j) := Classical.propDecidable _
def recB (s : List UInt8) (j : Nat) : List UInt8 × List UInt8 := (cB (lnB s j), rB (lnB s j))
noncomputable def cntF (s : List UInt8) : Nat → Nat → Nat
  | 0, j => j
  | f + 1, j => if goodB s j then cntF s f (j + 1) else j
noncomputable def cntB (s : List UInt8) : Nat := cntF s 60 0
theorem cntF_eq {s : List UInt8} {j : Nat} (hj : ¬ goodB s j) : ∀ f i, i ≤ j → j ≤ i + f → (∀ x, i ≤ x → x < j → goodB s x) → cntF s f i = j
  | 0, i, h1, h2, _ => by unfold cntF; omega
  | f + 1, i, h1, h2, h => by
    unfold cntF
    by_cases e : i = j
    · subst e; rw [if_neg hj]
    · rw [if_pos (h i (Nat.le_refl _) (by omega))]
      exact cntF_eq hj f (i + 1) (by omega) (by omega) fun x hx hx2 => h x (by omega) hx2
theorem cntF_all {s : List UInt8} {j : Nat} : ∀ f i, i + f = j → (∀ x, i ≤ x → x < j → goodB s x) → cntF s f i = j
  | 0, i, h1, _ => by unfold cntF; omega
  | f + 1, i, h1, h => by
    unfold cntF
    rw [if_pos (h i (Nat.le_refl _) (by omega))]
    exact cntF_all f (i + 1) (by omega) fun x hx hx2 => h x (by omega) hx2
theorem cnt_stop {s : List UInt8} {j : Nat} (hj : j ≤ 60) (h : ∀ i < j, goodB s i) (hn : ¬ goodB s j) : cntB s = j := cntF_eq hn 60 0 (Nat.zero_le _) (by omega) fun x _ hx => h x hx
theorem cnt_full {s : List UInt8} (h : ∀ i < 60, goodB s i) : cntB s = 60 := cntF_all 60 0 rfl fun x _ hx => h x hx
theorem cntF_spec (s : List UInt8) : ∀ f i, i ≤ cntF s f i ∧ cntF s f i ≤ i + f ∧ (∀ x, i ≤ x → x < cntF s f i → goodB s x) ∧ (cntF s f i < i + f → ¬ goodB s (cntF s f i))
  | 0, i => by unfold cntF; exact ⟨by omega, by omega, fun x h1 h2 => by omega, fun h => by omega⟩
  | f + 1, i => by
    unfold cntF
    split
    · rename_i hg
      obtain ⟨h1, h2, h3, h4⟩ := cntF_spec s f (i + 1)
      refine ⟨by omega, by omega, fun x hx hx2 => ?_, fun h => h4 (by omega)⟩
      by_cases e : x = i
      · subst e; exact hg
      · exact h3 x (by omega) hx2
    · rename_i hg
      exact ⟨by omega, by omega, fun x h1 h2 => by omega, fun _ => hg⟩
theorem cnt_spec (s : List UInt8) : cntB s ≤ 60 ∧ (∀ x < cntB s, goodB s x) ∧ (cntB s < 60 → ¬ goodB s (cntB s)) := by
  obtain ⟨h1, h2, h3, h4⟩ := cntF_spec s 60 0
  exact ⟨(by omega : cntF s 60 0 ≤ 60), fun x hx => h3 x (Nat.zero_le _) hx, fun h => h4 (by have h : cntF s 60 0 < 60 := h; omega)⟩
theorem at_le {s : List UInt8} {j : Nat} (h : ∀ i < j, goodB s i) : atB s j ≤ s.length := by
  induction j with
  | zero => exact Nat.zero_le _
  | succ j ih =>
    have h1 := ih fun i hi => h i (by omega)
    have h2 := bef_len (h j (by omega)).1
    rw [List.length_drop] at h2
    show atB s j + (bef 10 (s.drop (atB s j))).length + 1 ≤ _
    omega
noncomputable def recsB (s : List UInt8) : List (List UInt8 × List UInt8) := (List.range (cntB s)).map (recB s)
noncomputable def endsB (s : List UInt8) : List Int := (List.range (cntB s + 1)).map fun j => (atB s j : Int)
def recsTo (s : List UInt8) (j : Nat) : List (List UInt8 × List UInt8) := (List.range j).map (recB s)
def endsTo (s : List UInt8) (j : Nat) : List Int := (List.range (j + 1)).map fun j => (atB s j : Int)
@[simp] theorem recsTo_len (s : List UInt8) (j : Nat) : (recsTo s j).length = j := by simp [recsTo]
@[simp] theorem endsTo_len (s : List UInt8) (j : Nat) : (endsTo s j).length = j + 1 := by simp [endsTo]
theorem recsTo_succ (s : List UInt8) (j : Nat) : recsTo s (j + 1) = recsTo s j ++ [recB s j] := by simp [recsTo, List.range_succ]
theorem endsTo_succ (s : List UInt8) (j : Nat) : endsTo s (j + 1) = endsTo s j ++ [(atB s (j + 1) : Int)] := by simp [endsTo, List.range_succ]
theorem recsB_eq {s : List UInt8} {j : Nat} (h : cntB s = j) : recsB s = recsTo s j := by unfold recsB recsTo; rw [h]
theorem endsB_eq {s : List UInt8} {j : Nat} (h : cntB s = j) : endsB s = endsTo s j := by unfold endsB endsTo; rw [h]
theorem at_succ {s W : List UInt8} {j : Nat} (h : s.drop (atB s j) = W) : atB s (j + 1) = atB s j + (bef 10 W).length + 1 := by rw [← h]; rfl
theorem at_num {s W : List UInt8} {j : Nat} (h : s.drop (atB s j) = W) : (atB s j : Int) + ((bef 10 W).length + 1) = (atB s (j + 1) : Int) := by rw [at_succ h]; omega
theorem at_num2 {s W : List UInt8} {j : Nat} (h : s.drop (atB s j) = W) : (atB s j : Int) + (bef 10 W).length + 1 = (atB s (j + 1) : Int) := by rw [at_succ h]; omega
theorem good_at {s W : List UInt8} {j : Nat} (h : s.drop (atB s j) = W) : goodB s j ↔ (10 : UInt8) ∈ W ∧ okL2 (j : Int) (bef 10 W) := by unfold goodB lnB; rw [h]
theorem good_more {s : List UInt8} {j : Nat} (h : ∀ i < j, goodB s i) (hj : goodB s j) : ∀ i < j + 1, goodB s i := fun i hi => by
  by_cases e : i = j
  · subst e; exact hj
  · exact h i (by omega)
theorem recs_more {s W : List UInt8} {j : Nat} (h : s.drop (atB s j) = W) : recsTo s j ++ [(cB (bef 10 W), rB (bef 10 W))] = recsTo s (j + 1) := by
  rw [recsTo_succ]
  unfold recB lnB
  rw [h]
theorem ends_more {s W : List UInt8} {j : Nat} (h : s.drop (atB s j) = W) : endsTo s j ++ [(atB s j : Int) + ((bef 10 W).length + 1)] = endsTo s (j + 1) := by
  rw [endsTo_succ, at_num h]
theorem map_more {α : Type} {f : α → AV} {l l' : List α} {x : α} (h : l ++ [x] = l') : l.map f ++ [f x] = l'.map f := by rw [← h, List.map_append]; rfl
abbrev rcv (p : List UInt8 × List UInt8) : AV := .agg [.str p.1, .str p.2]
abbrev rowE (L : List (List UInt8 × List UInt8)) : Ent := .row .plain 2 (L.map rcv)
theorem pureRec {L : List (List UInt8 × List UInt8)} : ∀ e ∈ L.map rcv, pure2 e = true := fun e he => by
  obtain ⟨s, _, rfl⟩ := List.mem_map.1 he
  rfl
noncomputable def rcvS (s : List UInt8) : List UInt8 := if s.length ≤ 30000 then s.take (atB s (cntB s)) else []
noncomputable def rcvC (s : List UInt8) : Int := if s.length ≤ 30000 then (cntB s : Int) else 0
noncomputable def rcvN (s : List UInt8) : Int := if s.length ≤ 30000 then (atB s (cntB s) : Int) else 0
theorem rcvS_yes {s : List UInt8} (h : s.length ≤ 30000) : rcvS s = s.take (atB s (cntB s)) := if_pos h
theorem rcvC_yes {s : List UInt8} (h : s.length ≤ 30000) : rcvC s = (cntB s : Int) := if_pos h
theorem rcvN_yes {s : List UInt8} (h : s.length ≤ 30000) : rcvN s = (atB s (cntB s) : Int) := if_pos h
theorem rcvS_no {s : List UInt8} (h : ¬ s.length ≤ 30000) : rcvS s = [] := if_neg h
theorem rcvC_no {s : List UInt8} (h : ¬ s.length ≤ 30000) : rcvC s = 0 := if_neg h
theorem rcvN_no {s : List UInt8} (h : ¬ s.length ≤ 30000) : rcvN s = 0 := if_neg h
end Sx
