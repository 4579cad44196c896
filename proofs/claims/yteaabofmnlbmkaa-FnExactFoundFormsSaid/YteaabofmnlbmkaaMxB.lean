/- Plain words about gaps and walks. -/
import Derived.Test.YteaabofmnlbmkaaMxA
set_option linter.all false
namespace Sx
def gap (n : Int) (b : Bool) (x y : Int) : Int := if b = true then min (max (x - y) (y - x)) (n - max (x - y) (y - x)) else max (x - y) (y - x)
theorem gap_t (n : Int) (x y : Int) : gap n true x y = min (max (x - y) (y - x)) (n - max (x - y) (y - x)) := rfl
theorem gap_f (n : Int) (x y : Int) : gap n false x y = max (x - y) (y - x) := rfl
theorem gap_comm (n : Int) (b : Bool) (x y : Int) : gap n b x y = gap n b y x := by unfold gap; rw [Int.max_comm]
theorem gap_bd {n : Int} {b : Bool} {x y : Int} (hx : 0 ≤ x ∧ x < n) (hy : 0 ≤ y ∧ y < n) : 0 ≤ gap n b x y ∧ gap n b x y < n := by
  unfold gap; split <;> omega
/-- Steps of the first k places lead to neighbors. -/
def near (n : Int) (b : Bool) (w : List Int) (k : Nat) : Prop := ∀ i, i + 1 < k → ∀ h : i + 1 < w.length, gap n b w[i] w[i + 1] ≤ 1
theorem near_1 (n : Int) (b : Bool) (w : List Int) : near n b w 1 := fun i hi => by omega
theorem near_0 (n : Int) (b : Bool) (w : List Int) : near n b w 0 := fun i hi => by omega
theorem near_succ {n : Int} {b : Bool} {w : List Int} {k : Nat} (h : near n b w (k + 1)) (hk : k + 1 < w.length) (hg : gap n b w[k] w[k + 1] ≤ 1) : near n b w (k + 2) := fun i hi hl => by
  by_cases e : i = k
  · subst e; exact hg
  · exact h i (by omega) hl
theorem near_le {n : Int} {b : Bool} {w : List Int} {j k : Nat} (h : near n b w k) (hj : j ≤ k) : near n b w j := fun i hi hl => h i (by omega) hl
theorem near_step {n : Int} {b : Bool} {w : List Int} {k : Nat} (h : near n b w k) (h0 : 0 < k) (hk : k < w.length) (hg : gap n b (w[k - 1]'(by omega)) w[k] ≤ 1) : near n b w (k + 1) := by
  obtain ⟨j, rfl⟩ : ∃ j, k = j + 1 := ⟨k - 1, by omega⟩
  exact near_succ h hk hg
abbrev onW (n : Int) (w : List Int) : Prop := ∀ x ∈ w, 0 ≤ x ∧ x < n
def walk (n : Int) (b : Bool) (w : List Int) : Prop := (1 ≤ (w.length : Int) ∧ (w.length : Int) ≤ 61) ∧ onW n w ∧ near n b w w.length
open Classical in
noncomputable instance (n : Int) (b : Bool) (w : List Int) : Decidable (walk n b w) := propDecidable _
abbrev intss (L : List (List Int)) : AV := .sl 1 (L.map ints)
def walks (n : Int) (b : Bool) (L : List (List Int)) : Prop := ∀ w ∈ L, walk n b w
open Classical in
noncomputable instance (n : Int) (b : Bool) (L : List (List Int)) : Decidable (walks n b L) := propDecidable _
def chasers (n : Int) (b : Bool) (L : List (List Int)) : Prop := road n b ∧ walks n b L ∧ 1 ≤ (L.length : Int) ∧ (L.length : Int) ≤ 3
theorem chasers_len {n : Int} {b : Bool} {L : List (List Int)} (h : chasers n b L) : ∀ w ∈ L, 1 ≤ w.length ∧ w.length ≤ 61 := fun w hw => by have := (h.2.1 w hw).1; omega
open Classical in
noncomputable instance (n : Int) (b : Bool) (L : List (List Int)) : Decidable (chasers n b L) := propDecidable _
/-! the first that is so -/
open Classical in
noncomputable def fIx {α : Type} (p : α → Prop) (L : List α) : Int := if ∃ l ∈ L, p l then (L.findIdx (fun l => decide (p l)) : Nat) else -1
theorem fIx_no {α : Type} {p : α → Prop} {L : List α} (h : ∀ l ∈ L, ¬ p l) : fIx p L = -1 := by
  unfold fIx; rw [if_neg]; rintro ⟨l, hl, hp⟩; exact h l hl hp
theorem fIx_here {α : Type} {p : α → Prop} {L : List α} {k : Nat} (hk : k < L.length) (h : ∀ l ∈ L.take k, ¬ p l) (e : p L[k]) : fIx p L = k := by
  unfold fIx
  rw [if_pos ⟨_, List.getElem_mem hk, e⟩]
  congr 1
  rw [List.findIdx_eq hk]
  refine ⟨by simpa using e, fun j hj => ?_⟩
  have := h L[j] (by rw [List.mem_take_iff_getElem]; exact ⟨j, by omega, rfl⟩)
  simpa using this
theorem fIx_ge {α : Type} (p : α → Prop) (L : List α) : 0 ≤ fIx p L ↔ ∃ l ∈ L, p l := by
  unfold fIx; split
  · rename_i h; exact ⟨fun _ => h, fun _ => by omega⟩
  · rename_i h; exact ⟨fun h => by omega, fun h2 => (h h2).elim⟩
/-! sizes of arguments -/
def szF : List (List Int) → Int → Int
  | [], left => left
  | l :: ls, left => if left - l.length < 0 then -1 else szF ls (left - l.length)
theorem szF_cons (l : List Int) (ls : List (List Int)) (left : Int) : szF (l :: ls) left = if left - l.length < 0 then -1 else szF ls (left - l.length) := rfl
theorem szF_neg : ∀ {L : List (List Int)} {left : Int}, 0 ≤ szF L left → left ≤ 9223372036854775807 → 0 ≤ left ∧ szF L left ≤ left ∧ ∀ l ∈ L, (l.length : Int) ≤ left
  | [], left, h, _ => ⟨h, Int.le_refl _, nofun⟩
  | l :: ls, left, h, hl => by
    unfold szF at h ⊢
    split at h
    · omega
    · rename_i hn
      rw [if_neg hn]
      obtain ⟨h1, h2, h3⟩ := szF_neg h (by omega)
      exact ⟨by omega, by omega, fun x hx => by
        rcases List.mem_cons.1 hx with rfl | hx
        · omega
        · have := h3 x hx; omega⟩
def szSS (L : List (List Int)) (left : Int) : Int := if left - L.length < 0 then -1 else szF L (left - L.length)
theorem szSS_ok {L : List (List Int)} (h : ¬ szSS L 1048576 < 0) : L.length ≤ 1048576 ∧ ∀ l ∈ L, l.length ≤ 1048576 := by
  unfold szSS at h
  split at h
  · omega
  · obtain ⟨h1, h2, h3⟩ := szF_neg (L := L) (left := 1048576 - (L.length : Int)) (by omega) (by omega)
    exact ⟨by omega, fun l hl => by have := h3 l hl; omega⟩
end Sx
