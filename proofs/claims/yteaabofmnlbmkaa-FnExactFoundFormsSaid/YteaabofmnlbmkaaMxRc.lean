/- Plain words: turns of crowds by a rule. -/
import Derived.Test.YteaabofmnlbmkaaMxRb
set_option linter.all false
namespace Sx
def isRule (r : List Int) : Prop := (r.length : Int) = 6 ∧ ∀ x ∈ r, -1 ≤ x ∧ x ≤ 1
open Classical in
noncomputable instance (r : List Int) : Decidable (isRule r) := propDecidable _
theorem wayL_bd (n : Int) (l : List Int) (i : Nat) : -1 ≤ wayL n l i ∧ wayL n l i ≤ 1 := by
  have := cmpL_bd (gapsR n l i) (gapsR n l i).reverse
  unfold wayL; omega
/-- Where a robot goes. -/
noncomputable def tgt (n : Int) (l r : List Int) (i : Nat) : Int := (l.getD i 0 + wayL n l i * r.getD ((ranksL n l).getD i 0).toNat 0 + n) % n
noncomputable def tgts (n : Int) (l r : List Int) (k : Nat) : List Int := (List.range k).map (tgt n l r)
@[simp] theorem tgts_len (n : Int) (l r : List Int) (k : Nat) : (tgts n l r k).length = k := by simp [tgts]
theorem tgts_succ (n : Int) (l r : List Int) (k : Nat) : tgts n l r (k + 1) = tgts n l r k ++ [tgt n l r k] := by simp [tgts, List.range_succ]
theorem tgt_in {n : Int} (h : 3 ≤ n) (l r : List Int) (i : Nat) : 0 ≤ tgt n l r i ∧ tgt n l r i < n := ⟨Int.emod_nonneg _ (by omega), Int.emod_lt_of_pos _ (by omega)⟩
theorem tgts_in {n : Int} (h : 3 ≤ n) (l r : List Int) (k : Nat) : ∀ x ∈ tgts n l r k, 0 ≤ x ∧ x < n := fun x hx => by
  obtain ⟨i, _, rfl⟩ := List.mem_map.1 hx
  exact tgt_in h l r i
noncomputable def putT (n : Int) (l r : List Int) : Nat → List Int
  | 0 => []
  | k + 1 => srt n (tgts n l r (k + 1))
theorem putT_eq (n : Int) (l r : List Int) (k : Nat) : putT n l r k = srt n (tgts n l r k) := by
  cases k with
  | zero => show [] = srt n []; rw [srt_nil]
  | succ k => rfl
theorem srt_old {n : Int} {A : List Int} {x : Int} (h : x ∈ srt n A) : srt n (A ++ [x]) = srt n A := pw_eq (srt_pw _ _) (srt_pw _ _) fun y => by
  rw [srt_mem, srt_mem, List.mem_append, List.mem_singleton]
  exact ⟨fun g => ⟨g.1, g.2.elim id fun e => by rw [e]; exact (srt_mem.1 h).2⟩, fun g => ⟨g.1, .inl g.2⟩⟩
/-- Two robots meet or change their places. -/
def bad (T l : List Int) (a b : Nat) : Prop := T.getD a 0 = T.getD b 0 ∨ (T.getD a 0 = l.getD b 0 ∧ T.getD b 0 = l.getD a 0)
def clr (T l : List Int) (k : Nat) : Prop := ∀ a b, b < a → a < k → ¬ bad T l a b
theorem clr_0 (T l : List Int) : clr T l 0 := fun a b _ h => absurd h (Nat.not_lt_zero _)
theorem clr_next {T l : List Int} {k : Nat} (h : clr T l k) (h2 : ∀ b, b < k → ¬ bad T l k b) : clr T l (k + 1) := fun a b hb ha => by
  by_cases e : a = k
  · subst e; exact h2 b hb
  · exact h a b hb (by omega)
theorem bad_next {T l : List Int} {k j : Nat} (h : ∀ b, b < j → ¬ bad T l k b) (h2 : ¬ bad T l k j) : ∀ b, b < j + 1 → ¬ bad T l k b := fun b hb => by
  by_cases e : b = j
  · rw [e]; exact h2
  · exact h b (by omega)
theorem clr_nodup {T l : List Int} (h : clr T l T.length) : T.Nodup := by
  rw [List.Nodup, List.pairwise_iff_getElem]
  intro i j hi hj hij e
  exact h j i hij hj (.inl (by rw [elI_get hi, elI_get hj]; exact e.symm))
def stepOk (n : Int) (l r : List Int) : Prop := clr (tgts n l r l.length) l l.length
open Classical in
noncomputable instance (n : Int) (l r : List Int) : Decidable (stepOk n l r) := propDecidable _
noncomputable def stN (n : Int) (l r : List Int) : Int := if stepOk n l r then n else 0
noncomputable def stL (n : Int) (l r : List Int) : List Int := if stepOk n l r then srt n (tgts n l r l.length) else []
theorem st_yes {n : Int} {l r : List Int} (h : stepOk n l r) : stN n l r = n ∧ stL n l r = srt n (tgts n l r l.length) := ⟨if_pos h, if_pos h⟩
theorem st_no {n : Int} {l r : List Int} (h : ¬ stepOk n l r) : stN n l r = 0 ∧ stL n l r = [] := ⟨if_neg h, if_neg h⟩
theorem step_nodup {n : Int} {l r : List Int} (h : stepOk n l r) : (tgts n l r l.length).Nodup := clr_nodup (by rw [tgts_len]; exact h)
theorem step_crowd {n : Int} {l r : List Int} (hc : crowd n l) (h : stepOk n l r) : crowd n (srt n (tgts n l r l.length)) ∧ (srt n (tgts n l r l.length)).length = l.length := by
  have hl : (srt n (tgts n l r l.length)).length = l.length := by rw [srt_len (step_nodup h) (tgts_in hc.1.1.1 l r _), tgts_len]
  exact ⟨⟨⟨hc.1.1, by rw [hl]; exact hc.1.2⟩, srt_in _ _, pw_rise (srt_pw _ _)⟩, hl⟩
theorem stL_len {n : Int} {l r : List Int} (hc : crowd n l) : (stL n l r).length ≤ l.length := by
  by_cases h : stepOk n l r
  · rw [(st_yes h).2, (step_crowd hc h).2]; exact Nat.le_refl _
  · rw [(st_no h).2]; exact Nat.zero_le _
theorem tgts_get {n : Int} {l r : List Int} {k i : Nat} (h : i < k) : (tgts n l r k).getD i 0 = tgt n l r i := by
  rw [elI_get (by rw [tgts_len]; exact h)]
  simp [tgts]
end Sx
