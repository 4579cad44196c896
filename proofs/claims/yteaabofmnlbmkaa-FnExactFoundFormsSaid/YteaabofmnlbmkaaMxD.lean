/- Plain words about places at a time, and free walks. -/
import Derived.Test.YteaabofmnlbmkaaMxC
set_option linter.all false
namespace Sx
def atZ (w : List Int) (t : Int) : Int := w.getD (min t ((w.length : Int) - 1)).toNat 0
def plAt (L : List (List Int)) (t : Int) : List Int := L.map fun w => atZ w t
@[simp] theorem plAt_len (L : List (List Int)) (t : Int) : (plAt L t).length = L.length := by simp [plAt]
theorem plAt_take {L : List (List Int)} {t : Int} {k : Nat} (h : k < L.length) : plAt (L.take (k + 1)) t = plAt (L.take k) t ++ [atZ L[k] t] := by
  unfold plAt; rw [take_snoc h, List.map_append]; rfl
theorem atZ_get {w : List Int} {t : Int} (h : (min t ((w.length : Int) - 1)).toNat < w.length) : w[(min t ((w.length : Int) - 1)).toNat] = atZ w t := by
  unfold atZ; simp [List.getD_eq_getElem?_getD, h]
abbrev lenOk (L : List (List Int)) : Prop := ∀ w ∈ L, 1 ≤ w.length ∧ w.length ≤ 61
theorem atZ_mem {w : List Int} {t : Int} (h : 1 ≤ w.length) (ht : 0 ≤ t) : atZ w t ∈ w := by
  have h2 : (min t ((w.length : Int) - 1)).toNat < w.length := by omega
  rw [← atZ_get h2]; exact List.getElem_mem _
theorem plAt_in {n : Int} {b : Bool} {L : List (List Int)} (h : walks n b L) {t : Int} (ht : 0 ≤ t) : ∀ x ∈ plAt L t, 0 ≤ x ∧ x < n := fun x hx => by
  unfold plAt at hx
  obtain ⟨w, hw, rfl⟩ := List.mem_map.1 hx
  exact (h w hw).2.1 _ (atZ_mem (by have := (h w hw).1; omega) ht)
def lng (L : List (List Int)) : Int := L.foldl (fun m w => max m (w.length : Int)) 0
theorem lng_take {L : List (List Int)} {k : Nat} (h : k < L.length) : lng (L.take (k + 1)) = max (lng (L.take k)) L[k].length := by
  unfold lng; rw [take_snoc h, List.foldl_append]; rfl
theorem fold_bd : ∀ (L : List (List Int)) (m : Int), lenOk L → 0 ≤ m → m ≤ 61 → m ≤ L.foldl (fun m w => max m (w.length : Int)) m ∧ L.foldl (fun m w => max m (w.length : Int)) m ≤ 61 ∧ (L ≠ [] → 1 ≤ L.foldl (fun m w => max m (w.length : Int)) m)
  | [], m, _, h0, h1 => ⟨Int.le_refl _, h1, fun h => (h rfl).elim⟩
  | w :: L, m, h, h0, h1 => by
    have h4 := h w (List.mem_cons_self ..)
    obtain ⟨h5, h6, _⟩ := fold_bd L (max m w.length) (fun x hx => h x (List.mem_cons_of_mem _ hx)) (by omega) (by omega)
    simp only [List.foldl_cons]
    exact ⟨by omega, h6, fun _ => by omega⟩
theorem lng_bd (L : List (List Int)) (h : lenOk L) : 0 ≤ lng L ∧ lng L ≤ 61 ∧ (L ≠ [] → 1 ≤ lng L) := fold_bd L 0 h (by decide) (by decide)
theorem lenOk_take {L : List (List Int)} (h : lenOk L) (k : Nat) : lenOk (L.take k) := fun w hw => h w (List.mem_of_mem_take hw)
/-- Never caught. -/
def sFree (L : List (List Int)) (w : List Int) : Prop := ∀ (t : Nat) (h : t < w.length), w[t] ∉ plAt L t ∧ ∀ _ : 0 < t, ¬ passes (plAt L ((t : Int) - 1)) (plAt L t) (w[t - 1]'(by omega)) w[t]
open Classical in
noncomputable instance (L : List (List Int)) (w : List Int) : Decidable (sFree L w) := propDecidable _
theorem sFree_iff {L : List (List Int)} {w : List Int} (hw : 0 < w.length) : sFree L w ↔ w[0] ∉ plAt L 0 ∧ ∀ (t : Nat) (h : t + 1 < w.length), ¬ caught (plAt L t) (plAt L ((t : Int) + 1)) w[t] w[t + 1] := by
  constructor
  · intro h
    refine ⟨by have := (h 0 hw).1; simpa using this, fun t ht hc => ?_⟩
    have h2 := h (t + 1) ht
    rw [caught_iff (by simp)] at hc
    have e : (((t + 1 : Nat) : Int) - 1) = t := by omega
    have e2 : ((t + 1 : Nat) : Int) = (t : Int) + 1 := by omega
    rcases hc with hc | hc
    · exact h2.1 (by rw [e2]; exact hc)
    · have := h2.2 (by omega)
      rw [e, e2] at this
      exact this hc
  · rintro ⟨h1, h2⟩ t ht
    cases t with
    | zero => exact ⟨by simpa using h1, fun h => by omega⟩
    | succ t =>
      have h3 := h2 t ht
      rw [caught_iff (by simp)] at h3
      have e : (((t + 1 : Nat) : Int) - 1) = t := by omega
      have e2 : ((t + 1 : Nat) : Int) = (t : Int) + 1 := by omega
      rw [e, e2]
      exact ⟨fun h => h3 (.inl h), fun _ h => h3 (.inr h)⟩
def isFree (n : Int) (b : Bool) (L : List (List Int)) (w : List Int) : Prop := chasers n b L ∧ walk n b w ∧ (w.length : Int) = lng L ∧ sFree L w
open Classical in
noncomputable instance (n : Int) (b : Bool) (L : List (List Int)) (w : List Int) : Decidable (isFree n b L w) := propDecidable _
end Sx
