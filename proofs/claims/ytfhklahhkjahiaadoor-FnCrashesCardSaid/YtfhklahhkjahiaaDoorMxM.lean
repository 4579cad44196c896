/- Plain words: bytes of texts. -/
import Derived.Test.YtfhklahhkjahiaaDoorMxA
import Derived.Lib.IndexAny
set_option linter.all false
namespace Sx
/-- All bytes are within 32..126, and none is this one. -/
def clean (s : List UInt8) (x : Nat) : Prop := ∀ b ∈ s, 32 ≤ b.toNat ∧ b.toNat ≤ 126 ∧ b.toNat ≠ x
def plainB (s : List UInt8) : Prop := ∀ b ∈ s, 32 ≤ b.toNat ∧ b.toNat ≤ 126
instance (s : List UInt8) (x : Nat) : Decidable (clean s x) := by unfold clean; infer_instance
instance (s : List UInt8) : Decidable (plainB s) := by unfold plainB; infer_instance
theorem byL (s : List UInt8) (k : Nat) : (s.getD k 0).toNat < 256 := UInt8.toNat_lt _
theorem getD_at {s : List UInt8} {k : Nat} (h : k < s.length) : s.getD k 0 = s[k] := by rw [List.getD_eq_getElem?_getD, List.getElem?_eq_getElem h]; rfl
/-- One byte more. -/
theorem take_more {p : UInt8 → Prop} {s : List UInt8} {k : Nat} (h : (k : Int) < (s.length : Int)) (hk : ∀ b ∈ s.take k, p b) (hp : p (s.getD k 0)) : ∀ b ∈ s.take (k + 1), p b := fun b hb => by
  have h : k < s.length := by omega
  rw [List.take_add_one, List.getElem?_eq_getElem h] at hb
  rcases List.mem_append.1 hb with h1 | h1
  · exact hk b h1
  · simp at h1
    rw [h1, ← getD_at h]
    exact hp
theorem take_end {p : UInt8 → Prop} {s : List UInt8} {k : Nat} (h : ¬ (k : Int) < (s.length : Int)) (hk : ∀ b ∈ s.take k, p b) : ∀ b ∈ s, p b := by
  rwa [List.take_of_length_le (by omega)] at hk
theorem mem_at {s : List UInt8} {k : Nat} (h : (k : Int) < (s.length : Int)) : s.getD k 0 ∈ s := by
  rw [getD_at (by omega)]
  exact List.getElem_mem _
/-- A record is valid. -/
def recOk (c r : List UInt8) : Prop := c ≠ [] ∧ (clean c 35 ∧ (c.length : Int) ≤ 160) ∧ (¬ ∃ b ∈ c, b.toNat = 64) ∧ clean r 35 ∧ (r.length : Int) ≤ 250
instance (c r : List UInt8) : Decidable (recOk c r) := by unfold recOk; infer_instance
abbrev rec2 (c r : List UInt8) : AV := .agg [.str c, .str r]
theorem u8ne {b : UInt8} {n : Nat} (hn : n < 256) : b ≠ UInt8.ofNat n ↔ b.toNat ≠ n := by
  constructor
  · intro h e
    apply h
    apply UInt8.toNat_inj.1
    rw [e]
    simp [Nat.mod_eq_of_lt hn]
  · intro h e
    rw [e] at h
    simp [Nat.mod_eq_of_lt hn] at h
theorem any_iff {s o : List UInt8} : ¬ Go.Lib.containsAny s o = true ↔ ∀ b ∈ s, b ∉ o := by
  unfold Go.Lib.containsAny
  rw [decide_eq_true_eq]
  constructor
  · intro h b hb hc
    have key : ∀ (l : List UInt8), b ∈ l → 0 ≤ Go.Lib.indexAny l o := by
      intro l
      induction l with
      | nil => intro hx; cases hx
      | cons y l ih =>
        intro hx
        unfold Go.Lib.indexAny
        split
        · decide
        · rename_i hy
          have hbl : b ∈ l := by
            rcases List.mem_cons.1 hx with e | e
            · subst e
              exact absurd (List.elem_eq_true_of_mem hc) (by simpa using hy)
            · exact e
          have := ih hbl
          split
          · rename_i e
            have := beq_iff_eq.1 e
            omega
          · omega
    exact h (key s hb)
  · intro h hc
    have : Go.Lib.indexAny s o = -1 := Go.Lib.indexAny_none fun j b _ hb => by
      have := h b (List.mem_of_getElem? hb)
      simpa using this
    omega
theorem plain1 {s : List UInt8} (m : Int) : (plainB s ∧ (s.length : Int) ≤ m ∧ ∀ b ∈ s, b ∉ ([35] : List UInt8)) ↔ clean s 35 ∧ (s.length : Int) ≤ m := by
  have h35 : ∀ b : UInt8, b ∉ ([35] : List UInt8) ↔ b.toNat ≠ 35 := fun b => by rw [List.mem_singleton]; exact u8ne (n := 35) (by omega)
  simp only [h35]
  exact ⟨fun ⟨h1, h2, h3⟩ => ⟨fun b hb => ⟨(h1 b hb).1, (h1 b hb).2, h3 b hb⟩, h2⟩, fun ⟨h1, h2⟩ => ⟨fun b hb => ⟨(h1 b hb).1, (h1 b hb).2.1⟩, h2, fun b hb => (h1 b hb).2.2⟩⟩
theorem plain2 {s : List UInt8} (m : Int) : (plainB s ∧ (s.length : Int) ≤ m ∧ ∀ b ∈ s, b ∉ ([35, 64] : List UInt8)) ↔ (clean s 35 ∧ (s.length : Int) ≤ m) ∧ ¬ ∃ b ∈ s, b.toNat = 64 := by
  have h35 : ∀ b : UInt8, b ∉ ([35, 64] : List UInt8) ↔ b.toNat ≠ 35 ∧ b.toNat ≠ 64 := fun b => by
    rw [List.mem_cons, List.mem_singleton, not_or]
    exact and_congr (u8ne (n := 35) (by omega)) (u8ne (n := 64) (by omega))
  simp only [h35]
  exact ⟨fun ⟨h1, h2, h3⟩ => ⟨⟨fun b hb => ⟨(h1 b hb).1, (h1 b hb).2, (h3 b hb).1⟩, h2⟩, fun ⟨b, hb, e⟩ => (h3 b hb).2 e⟩, fun ⟨⟨h1, h2⟩, h3⟩ => ⟨fun b hb => ⟨(h1 b hb).1, (h1 b hb).2.1⟩, h2, fun b hb => ⟨(h1 b hb).2.2, fun e => h3 ⟨b, hb, e⟩⟩⟩⟩
def fitS (s : List UInt8) : Prop := s.length ≤ 9223372036854775807
end Sx
