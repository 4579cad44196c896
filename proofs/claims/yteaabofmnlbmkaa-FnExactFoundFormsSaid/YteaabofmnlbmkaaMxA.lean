/- Plain words about lists. -/
import Derived.Test.YteaabofmnlbmkaaSxC
set_option linter.all false
namespace Sx
theorem all_take {α : Type} {P : α → Prop} {l : List α} {k : Nat} (h : k < l.length) : (∀ x ∈ l.take (k + 1), P x) ↔ (∀ x ∈ l.take k, P x) ∧ P l[k] := by
  rw [List.take_succ_eq_append_getElem h]
  simp only [List.mem_append, List.mem_singleton]
  exact ⟨fun h => ⟨fun x hx => h x (.inl hx), h _ (.inr rfl)⟩, fun h x hx => hx.elim (h.1 x) fun e => e ▸ h.2⟩
theorem take_all {α : Type} {l : List α} {k : Nat} (h : ¬ (k : Int) < (l.length : Int)) : l.take k = l := List.take_of_length_le (by omega)
theorem take_snoc {α : Type} {l : List α} {k : Nat} (h : k < l.length) : l.take (k + 1) = l.take k ++ [l[k]] := List.take_succ_eq_append_getElem h
theorem set_at {α : Type} {a l : List α} {j : Nat} {x : α} (ha : a.length = j) (hj : j < l.length) : (a ++ l.drop j).set j x = (a ++ [x]) ++ l.drop (j + 1) := by
  subst ha
  rw [List.set_append_right _ _ (Nat.le_refl _), Nat.sub_self, List.drop_eq_getElem_cons hj, List.set_cons_zero, List.append_assoc]
  rfl
theorem take_len {α : Type} {l : List α} {k : Nat} (h : k ≤ l.length) : (l.take k).length = k := by simp; omega
def marks (k : Int) (n : Nat) : List Int := (List.range n).map fun i => k + (i : Nat)
@[simp] theorem marks_len (k : Int) (n : Nat) : (marks k n).length = n := by simp [marks]
theorem marks_succ (k : Int) (n : Nat) : marks k (n + 1) = marks k n ++ [k + (n : Nat)] := by simp [marks, List.range_succ]
theorem marks_get {k : Int} {n i : Nat} (h : i < (marks k n).length) : (marks k n)[i] = k + (i : Nat) := by simp [marks]
theorem eq_take {α : Type} {a b : List α} {k : Nat} (h : a.length = b.length) (hk : k < a.length) : a.take (k + 1) = b.take (k + 1) ↔ a.take k = b.take k ∧ a[k] = b[k]'(by omega) := by
  rw [take_snoc hk, take_snoc (by omega : k < b.length)]
  constructor
  · intro h2
    have := List.append_inj h2 (by simp; omega)
    simpa using this
  · rintro ⟨h1, h2⟩; rw [h1, h2]
def ixOf (l : List Int) (x : Int) : Int := if x ∈ l then (l.idxOf x : Int) else -1
theorem ixOf_here {l : List Int} {x : Int} {k : Nat} (hk : k < l.length) (h : ∀ y ∈ l.take k, y ≠ x) (e : x = l[k]) : ixOf l x = k := by
  have hm : x ∈ l := by rw [e]; exact List.getElem_mem _
  unfold ixOf
  rw [if_pos hm]
  congr 1
  have hl : l = l.take k ++ l.drop k := (List.take_append_drop k l).symm
  have hn : x ∉ l.take k := fun hx => h x hx rfl
  have hd : l.drop k = x :: l.drop (k + 1) := by rw [List.drop_eq_getElem_cons hk, e]
  rw [hl, List.idxOf_append, if_neg hn, hd, List.idxOf_cons_self]
  simp; omega
theorem ixOf_no {l : List Int} {x : Int} (h : ∀ y ∈ l, y ≠ x) : ixOf l x = -1 := by
  unfold ixOf
  rw [if_neg fun hx => h x hx rfl]
theorem ixOf_ge (l : List Int) (x : Int) : 0 ≤ ixOf l x ↔ x ∈ l := by
  unfold ixOf
  split <;> simp_all
theorem ixOf_le (l : List Int) (x : Int) : -1 ≤ ixOf l x ∧ ixOf l x ≤ l.length := by
  unfold ixOf
  split
  · have := List.idxOf_le_length (a := x) (l := l); omega
  · omega
theorem pureI {l : List Int} : ∀ e ∈ l.map i64, pure2 e = true := fun e h => by
  obtain ⟨x, _, rfl⟩ := List.mem_map.1 h
  rfl
theorem pureSS {L : List (List Int)} : ∀ e ∈ L.map (fun l => AV.sl 1 (l.map i64)), pureN e := fun e h => by
  obtain ⟨x, _, rfl⟩ := List.mem_map.1 h
  exact pureI
theorem map_congr {α β : Type} {f : α → β} {a b : List α} (h : a = b) : a.map f = b.map f := by rw [h]
theorem range_snoc {α : Type} (f : Nat → α) (k : Nat) : (List.range (k + 1)).map f = (List.range k).map f ++ [f k] := by simp [List.range_succ]
theorem toN {x : Int} {q : Nat} (hx : 0 ≤ x) (h : q = x.toNat) : (q : Int) = x := by omega
theorem toN' {x : Int} {q : Nat} (hx : 0 ≤ x) (h : (q : Int) = x) : q = x.toNat := by omega
/-! roads -/
abbrev road (n : Int) (b : Bool) : Prop := 2 ≤ n ∧ n ≤ 24 ∧ (b = true → 3 ≤ n)
abbrev rd (n : Int) (b : Bool) : AV := .agg [i64 n, bv b]
abbrev ints (l : List Int) : AV := .sl 1 (l.map i64)
abbrev row (l : List Int) : Ent := .row .plain 1 (l.map i64)
abbrev okPl (n : Int) (b : Bool) (l : List Int) : Prop := road n b ∧ (1 ≤ (l.length : Int) ∧ (l.length : Int) ≤ 3) ∧ ∀ x ∈ l, 0 ≤ x ∧ x < n
def dirt (l : List Int) (p : Nat) : Int := if (p : Int) ∈ l then 0 else 1
def dirty0 (n : Int) (l : List Int) : List Int := (List.range n.toNat).map (dirt l)
def firstD (n : Int) (b : Bool) (l : List Int) : List Int := if okPl n b l then dirty0 n l else []
@[simp] theorem dirty0_len (n : Int) (l : List Int) : (dirty0 n l).length = n.toNat := by simp [dirty0]
theorem firstD_len (n : Int) (b : Bool) (l : List Int) : (firstD n b l).length ≤ 24 := by
  unfold firstD
  split
  · rename_i h; rw [dirty0_len]; have := h.1; omega
  · simp
theorem firstD_yes {n : Int} {b : Bool} {l : List Int} (h : okPl n b l) : firstD n b l = dirty0 n l := if_pos h
theorem firstD_no {n : Int} {b : Bool} {l : List Int} (h : ¬ okPl n b l) : firstD n b l = [] := if_neg h
end Sx
