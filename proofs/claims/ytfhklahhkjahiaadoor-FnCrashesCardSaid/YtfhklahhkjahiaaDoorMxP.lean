/- Plain words: texts, their parts and their seals. -/
import Derived.Test.YtfhklahhkjahiaaDoorMxM
import Derived.Lib.ItoaNum
import Derived.Lib.Bytealg
set_option linter.all false
namespace Sx
open Go
/-- What stands before a byte, and behind it. -/
def bef (c : UInt8) (s : List UInt8) : List UInt8 := s.takeWhile (fun b => b != c)
def aft (c : UInt8) (s : List UInt8) : List UInt8 := s.drop ((bef c s).length + 1)
theorem bef_le (c : UInt8) (s : List UInt8) : (bef c s).length ≤ s.length := List.Sublist.length_le (List.takeWhile_sublist _)
theorem bef_all {c : UInt8} {s : List UInt8} (h : c ∉ s) : bef c s = s := by
  unfold bef
  induction s with
  | nil => rfl
  | cons b l ih =>
    have hb : ¬ b = c := fun e => h (by simp [e])
    rw [List.takeWhile_cons, if_pos (by simpa using hb), ih (fun e => h (List.mem_cons_of_mem _ e))]
theorem bef_app {c : UInt8} {s t : List UInt8} (h : c ∉ s) : bef c (s ++ c :: t) = s := by
  unfold bef
  rw [List.takeWhile_append_of_pos]
  · simp
  · intro b hb
    simp
    exact fun e => h (e ▸ hb)
theorem aft_app {c : UInt8} {s t : List UInt8} (h : c ∉ s) : aft c (s ++ c :: t) = t := by
  unfold aft
  rw [bef_app h, show s ++ c :: t = (s ++ [c]) ++ t by simp, List.drop_left' (by simp)]
theorem aft_none {c : UInt8} {s : List UInt8} (h : c ∉ s) : aft c s = [] := by
  unfold aft
  rw [bef_all h]
  simp
theorem split_eq {c : UInt8} {s : List UInt8} (h : c ∈ s) : s = bef c s ++ c :: aft c s ∧ c ∉ bef c s := by
  induction s with
  | nil => cases h
  | cons b l ih =>
    by_cases hb : b = c
    · subst hb
      simp [bef, aft]
    · have hl : c ∈ l := by
        rcases List.mem_cons.1 h with e | e
        · exact (hb e.symm).elim
        · exact e
      have e1 : bef c (b :: l) = b :: bef c l := by simp [bef, hb]
      have e2 : aft c (b :: l) = aft c l := by unfold aft; rw [e1]; rfl
      rw [e1, e2]
      refine ⟨?_, ?_⟩
      · rw [List.cons_append, ← (ih hl).1]
      · intro hm
        rcases List.mem_cons.1 hm with e | e
        · exact hb e.symm
        · exact (ih hl).2 e
theorem bef_len {c : UInt8} {s : List UInt8} (h : c ∈ s) : (bef c s).length + 1 + (aft c s).length = s.length := by
  have := congrArg List.length (split_eq h).1
  simp at this
  omega
theorem take_bef {c : UInt8} {s : List UInt8} : s.take (bef c s).length = bef c s := by
  by_cases h : c ∈ s
  · conv => lhs; arg 2; rw [(split_eq h).1]
    rw [List.take_left' rfl]
  · rw [bef_all h, List.take_length]
theorem index_eq (c : UInt8) (s : List UInt8) : Lib.indexByte s c = if c ∈ s then ((bef c s).length : Int) else -1 := by
  induction s with
  | nil => rfl
  | cons b l ih =>
    unfold Lib.indexByte
    by_cases hb : b = c
    · subst hb
      simp [bef]
    · have e1 : bef c (b :: l) = b :: bef c l := by simp [bef, hb]
      have hb2 : ¬ c = b := fun e => hb e.symm
      rw [if_neg (by simpa using hb), ih, e1]
      by_cases hl : c ∈ l
      · rw [if_pos hl, if_pos (List.mem_cons_of_mem _ hl), if_neg (fun e => by have := beq_iff_eq.1 e; omega)]
        simp
      · have hn : ¬ c ∈ b :: l := fun e => by
          rcases List.mem_cons.1 e with x | x
          · exact hb2 x
          · exact hl x
        rw [if_neg hl, if_neg hn]
        rfl
/-- The sum of a text. -/
def sumB (s : List UInt8) : Int := s.foldl (fun h b => (41 * h + (b.toNat : Int) + 1) % 999979) 7
theorem sum_take {s : List UInt8} {k : Nat} (h : k < s.length) : sumB (s.take (k + 1)) = (41 * sumB (s.take k) + ((s.getD k 0).toNat : Int) + 1) % 999979 := by
  unfold sumB
  rw [List.take_add_one, List.getElem?_eq_getElem h, List.foldl_append, getD_at h]
  rfl
theorem sum_range (s : List UInt8) : 0 ≤ sumB s ∧ sumB s < 999979 := by
  rcases List.eq_nil_or_concat s with h | ⟨l, b, h⟩
  · subst h; decide
  · subst h
    unfold sumB
    rw [List.concat_eq_append, List.foldl_append]
    simp only [List.foldl_cons, List.foldl_nil]
    omega
theorem itoa_small {n : Int} (h0 : 0 ≤ n) (h : n < 10) : Lib.itoa n = [UInt8.ofNat (48 + n.toNat)] := by
  unfold Lib.itoa
  rw [if_neg (by omega), Lib.decDigits_one (by omega)]
theorem itoa_big {n : Int} (h : 10 ≤ n) : Lib.itoa n = Lib.itoa (n / 10) ++ [UInt8.ofNat (48 + (n % 10).toNat)] := by
  unfold Lib.itoa
  rw [if_neg (by omega), if_neg (by omega), Lib.decDigits, dif_neg (by omega), show (n / 10).toNat = n.toNat / 10 by omega, show (n % 10).toNat = n.toNat % 10 by omega]
theorem itoa_digits {n : Int} (h0 : 0 ≤ n) : ∀ b ∈ Lib.itoa n, 48 ≤ b.toNat ∧ b.toNat ≤ 57 := by
  have key : ∀ k : Nat, ∀ n : Int, 0 ≤ n → n ≤ k → ∀ b ∈ Lib.itoa n, 48 ≤ b.toNat ∧ b.toNat ≤ 57 := by
    intro k
    induction k with
    | zero =>
      intro n h0 h1 b hb
      rw [itoa_small h0 (by omega)] at hb
      have := List.mem_singleton.1 hb
      subst this
      rw [show n.toNat = 0 by omega]
      decide
    | succ k ih =>
      intro n h0 h1 b hb
      have dig : ∀ m : Nat, m < 10 → 48 ≤ (UInt8.ofNat (48 + m)).toNat ∧ (UInt8.ofNat (48 + m)).toNat ≤ 57 := by decide
      by_cases h : n < 10
      · rw [itoa_small h0 h] at hb
        have := List.mem_singleton.1 hb
        subst this
        exact dig _ (by omega)
      · rw [itoa_big (by omega)] at hb
        rcases List.mem_append.1 hb with e | e
        · exact ih (n / 10) (by omega) (by omega) b e
        · have := List.mem_singleton.1 e
          subst this
          exact dig _ (by omega)
  exact key n.toNat n h0 (by omega)
theorem itoa_len {n : Int} (h0 : 0 ≤ n) {d : Nat} (hd : n < 10 ^ (d + 1)) : (Lib.itoa n).length ≤ d + 1 := by
  induction d generalizing n with
  | zero => rw [itoa_small h0 (by simpa using hd)]; simp
  | succ d ih =>
    by_cases h : n < 10
    · rw [itoa_small h0 h]; simp
    · rw [itoa_big (by omega)]
      have : n / 10 < 10 ^ (d + 1) := by
        rw [Int.pow_succ] at hd
        omega
      have := ih (n := n / 10) (by omega) this
      simp
      omega
/-- The digit text, cut. -/
theorem digit_cut {n : Int} (h0 : 0 ≤ n) (h : n < 10) : List.drop n.toNat (List.take (n + 1).toNat ([48, 49, 50, 51, 52, 53, 54, 55, 56, 57] : List UInt8)) = [UInt8.ofNat (48 + n.toNat)] := by
  obtain ⟨m, rfl⟩ := Int.eq_ofNat_of_zero_le h0
  have : m < 10 := by omega
  have key : ∀ m : Fin 10, List.drop m.val (List.take (m.val + 1) ([48, 49, 50, 51, 52, 53, 54, 55, 56, 57] : List UInt8)) = [UInt8.ofNat (48 + m.val)] := by decide
  exact key ⟨m, this⟩
def sealB (s : List UInt8) : List UInt8 := s ++ [35] ++ Lib.itoa (sumB s)
theorem seal_len (s : List UInt8) : (sealB s).length ≤ s.length + 7 := by
  have := itoa_len (sum_range s).1 (d := 5) (by have := (sum_range s).2; omega)
  simp [sealB]
  omega
/-- The parts of a text between bytes of a kind. -/
def spl (c : UInt8) (s : List UInt8) : Nat → List (List UInt8) × Nat
  | 0 => ([], 0)
  | k + 1 => if s.getD k 0 = c then ((spl c s k).1 ++ [(s.take k).drop (spl c s k).2], k + 1) else spl c s k
def splitB (c : UInt8) (s : List UInt8) : List (List UInt8) := (spl c s s.length).1 ++ [s.drop (spl c s s.length).2]
theorem spl_le (c : UInt8) (s : List UInt8) : ∀ k, (spl c s k).2 ≤ k ∧ (spl c s k).1.length ≤ k
  | 0 => by simp [spl]
  | k + 1 => by
    have := spl_le c s k
    unfold spl
    split
    · simp; omega
    · omega
theorem spl_fst (c : UInt8) (s : List UInt8) : ∀ k, k ≤ s.length → (c ∉ s.take k ∧ spl c s k = ([], 0)) ∨ (c ∈ s.take k ∧ (spl c s k).1.head? = some (bef c s))
  | 0, _ => by simp [spl]
  | k + 1, hk => by
    have e : s.take (k + 1) = s.take k ++ [s.getD k 0] := by rw [List.take_add_one, List.getElem?_eq_getElem (by omega), getD_at (by omega)]; rfl
    rcases spl_fst c s k (by omega) with ⟨h1, h2⟩ | ⟨h1, h2⟩
    · unfold spl
      split
      · rename_i hc
        right
        refine ⟨by rw [e]; exact List.mem_append.2 (.inr (by rw [hc]; exact List.mem_singleton.2 rfl)), ?_⟩
        rw [h2]
        have hs : s = s.take k ++ c :: s.drop (k + 1) := by
          conv => lhs; rw [← List.take_append_drop (k + 1) s, e, hc]
          simp
        have hb : bef c s = s.take k := by
          conv => lhs; rw [hs]
          exact bef_app h1
        rw [hb]
        simp
      · rename_i hc
        left
        refine ⟨?_, h2⟩
        rw [e]
        intro hm
        rcases List.mem_append.1 hm with x | x
        · exact h1 x
        · exact hc (List.mem_singleton.1 x).symm
    · right
      refine ⟨by rw [e]; exact List.mem_append.2 (.inl h1), ?_⟩
      unfold spl
      split
      · rw [List.head?_append, h2]; rfl
      · exact h2
theorem splitB_len (c : UInt8) (s : List UInt8) : (splitB c s).length ≤ s.length + 1 ∧ 1 ≤ (splitB c s).length := by
  have := (spl_le c s s.length).2
  simp [splitB]
  omega
theorem splitB_head (c : UInt8) (s : List UInt8) : (splitB c s).getD 0 [] = bef c s := by
  unfold splitB
  rcases spl_fst c s s.length (Nat.le_refl _) with ⟨h1, h2⟩ | ⟨h1, h2⟩
  · rw [List.take_length] at h1
    rw [h2, bef_all h1]
    rfl
  · rw [List.getD_eq_getElem?_getD, ← List.head?_eq_getElem?, List.head?_append, h2]
    rfl
theorem splitB_at (c : UInt8) (s : List UInt8) : (splitB c s)[0]'(splitB_len c s).2 = bef c s := by
  rw [← splitB_head c s, List.getD_eq_getElem?_getD, List.getElem?_eq_getElem]
  rfl
theorem splitB_many (c : UInt8) (s : List UInt8) : (splitB c s).length < 2 ↔ c ∉ s := by
  unfold splitB
  rcases spl_fst c s s.length (Nat.le_refl _) with ⟨h1, h2⟩ | ⟨h1, h2⟩
  · rw [List.take_length] at h1
    rw [h2]
    simp [h1]
  · rw [List.take_length] at h1
    cases hl : (spl c s s.length).1 with
    | nil => rw [hl] at h2; cases h2
    | cons x l => simp [h1]
/-- A text can be sealed; a text is sealed. -/
def acOk (s : List UInt8) : Prop := (s.length : Int) ≤ 4000 ∧ (35 : UInt8) ∉ s ∧ ((sealB s).length : Int) ≤ 4000
instance (s : List UInt8) : Decidable (acOk s) := by unfold acOk; infer_instance
def vcOk (s : List UInt8) : Prop := acOk (bef 35 s) ∧ sealB (bef 35 s) = s
instance (s : List UInt8) : Decidable (vcOk s) := by unfold vcOk; infer_instance
abbrev rowT (L : List (List UInt8)) : Ent := .row .plain 1 (L.map AV.str)
theorem pureStr {L : List (List UInt8)} : ∀ e ∈ L.map AV.str, pure2 e = true := fun e he => by
  obtain ⟨s, _, rfl⟩ := List.mem_map.1 he
  rfl
end Sx
