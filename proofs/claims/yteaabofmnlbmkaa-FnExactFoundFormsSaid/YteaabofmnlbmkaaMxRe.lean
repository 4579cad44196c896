/- Plain words: forms that are found. -/
import Derived.Test.YteaabofmnlbmkaaMxRd
set_option linter.all false
namespace Sx
theorem nodup_lt : ∀ {N : Nat} {L : List Nat}, L.Nodup → (∀ x ∈ L, x < N) → L.length ≤ N
  | 0, L, _, h => by
    cases L with
    | nil => exact Nat.le_refl _
    | cons x L => exact absurd (h x (List.mem_cons_self ..)) (Nat.not_lt_zero _)
  | N + 1, L, hn, h => by
    by_cases hm : N ∈ L
    · have h1 := nodup_lt (N := N) (L := L.erase N) (hn.erase N) fun x hx => by
        rw [hn.mem_erase_iff] at hx
        have := h x hx.2
        have := hx.1
        omega
      rw [List.length_erase_of_mem hm] at h1
      omega
    · have h1 := nodup_lt (N := N) (L := L) hn fun x hx => by
        have := h x hx
        have : x ≠ N := fun e => hm (e ▸ hx)
        omega
      omega
/-- A number for what is in a list. -/
def codeL (L : List Int) : List Nat → Nat
  | [] => 0
  | q :: Q => 2 * codeL L Q + if (q : Int) ∈ L then 1 else 0
theorem codeL_lt (L : List Int) : ∀ Q : List Nat, codeL L Q < 2 ^ Q.length
  | [] => by show 0 < 1; omega
  | q :: Q => by
    have := codeL_lt L Q
    show 2 * codeL L Q + (if (q : Int) ∈ L then 1 else 0) < 2 ^ (Q.length + 1)
    rw [Nat.pow_succ]
    split <;> omega
theorem codeL_inj {L L' : List Int} : ∀ {Q : List Nat}, codeL L Q = codeL L' Q → ∀ q ∈ Q, ((q : Int) ∈ L ↔ (q : Int) ∈ L')
  | [], _, q, h => by cases h
  | x :: Q, h, q, hq => by
    have h : 2 * codeL L Q + (if (x : Int) ∈ L then 1 else 0) = 2 * codeL L' Q + (if (x : Int) ∈ L' then 1 else 0) := h
    have h1 : codeL L Q = codeL L' Q ∧ ((x : Int) ∈ L ↔ (x : Int) ∈ L') := by
      by_cases a : (x : Int) ∈ L
      · by_cases b : (x : Int) ∈ L'
        · rw [if_pos a, if_pos b] at h; exact ⟨by omega, ⟨fun _ => b, fun _ => a⟩⟩
        · rw [if_pos a, if_neg b] at h; omega
      · by_cases b : (x : Int) ∈ L'
        · rw [if_neg a, if_pos b] at h; omega
        · rw [if_neg a, if_neg b] at h; exact ⟨by omega, ⟨fun x => absurd x a, fun x => absurd x b⟩⟩
    rcases List.mem_cons.1 hq with e | e
    · rw [e]; exact h1.2
    · exact codeL_inj h1.1 q e
theorem crowd_code {n : Int} {a b : List Int} (ha : crowd n a) (hb : crowd n b) (h : codeL a (List.range 12) = codeL b (List.range 12)) : a = b := by
  have hn := ha.1.1
  refine pw_eq (rise_pw ha.2.2) (rise_pw hb.2.2) fun x => ?_
  have key : 0 ≤ x ∧ x < n → (x ∈ a ↔ x ∈ b) := fun hx => by
    have := codeL_inj h x.toNat (List.mem_range.2 (by omega))
    rwa [Int.toNat_of_nonneg hx.1] at this
  exact ⟨fun hx => (key (ha.2.1 x hx)).1 hx, fun hx => (key (hb.2.1 x hx)).2 hx⟩
/-- Different crowds are not many. -/
theorem crowds_le {n : Int} {F : List (List Int)} (hn : F.Nodup) (hc : ∀ x ∈ F, crowd n x) : F.length ≤ 4096 := by
  have h1 := nodup_lt (N := 4096) (L := F.map fun x => codeL x (List.range 12)) (by
    rw [List.Nodup, List.pairwise_map]
    refine List.Pairwise.imp_of_mem (fun ha hb hne e => hne ?_) hn
    exact crowd_code (hc _ ha) (hc _ hb) e) fun x hx => by
      obtain ⟨y, _, rfl⟩ := List.mem_map.1 hx
      have := codeL_lt y (List.range 12)
      rwa [List.length_range] at this
  rwa [List.length_map] at h1
/-- The first number at which a list has come before. -/
noncomputable def foK (f : Nat → List Int) : Nat → Nat → Nat
  | 0, k => k
  | u + 1, k => if f k ∈ (List.range k).map f then k else foK f u (k + 1)
noncomputable def fresh (f : Nat → List Int) (k : Nat) : Prop := ∀ j, j < k → f j ∉ (List.range j).map f
theorem fresh_0 (f : Nat → List Int) : fresh f 0 := fun j h => absurd h (Nat.not_lt_zero _)
theorem fresh_next {f : Nat → List Int} {k : Nat} (h : fresh f k) (h2 : f k ∉ (List.range k).map f) : fresh f (k + 1) := fun j hj => by
  by_cases e : j = k
  · rw [e]; exact h2
  · exact h j (by omega)
theorem fresh_nodup {f : Nat → List Int} {k : Nat} (h : fresh f k) : ((List.range k).map f).Nodup := by
  rw [List.Nodup, List.pairwise_map]
  rw [List.pairwise_iff_getElem]
  intro i j hi hj hij e
  rw [List.getElem_range, List.getElem_range] at e
  rw [List.length_range] at hj
  exact h j hj (List.mem_map.2 ⟨i, List.mem_range.2 hij, e⟩)
theorem foK_skip {f : Nat → List Int} : ∀ {k u : Nat}, fresh f k → k ≤ u → foK f u 0 = foK f (u - k) k
  | 0, u, _, _ => rfl
  | k + 1, u, h, hk => by
    rw [foK_skip (k := k) (fun j hj => h j (by omega)) (by omega)]
    obtain ⟨m, hm⟩ : ∃ m, u - k = m + 1 := ⟨u - k - 1, by omega⟩
    rw [hm, show u - (k + 1) = m by omega]
    exact if_neg (h k (by omega))
theorem foK_stop {f : Nat → List Int} {k : Nat} (h : fresh f k) (hk : k ≤ 4999) (h2 : f k ∈ (List.range k).map f) : foK f 5000 0 = k := by
  rw [foK_skip h (by omega)]
  obtain ⟨m, hm⟩ : ∃ m, 5000 - k = m + 1 := ⟨5000 - k - 1, by omega⟩
  rw [hm]
  exact if_pos h2
/-- The form behind k turns. -/
noncomputable def fK (n : Int) (l r : List Int) (k : Nat) : List Int := formR n (runL n l r k)
noncomputable def fS (n : Int) (l r : List Int) (k : Nat) : List (List Int) := (List.range k).map (fK n l r)
@[simp] theorem fS_len (n : Int) (l r : List Int) (k : Nat) : (fS n l r k).length = k := by simp [fS]
theorem fS_succ (n : Int) (l r : List Int) (k : Nat) : fS n l r (k + 1) = fS n l r k ++ [fK n l r k] := by simp [fS, List.range_succ]
theorem fK_crowd {n : Int} {l r : List Int} (hc : crowd n l) (k : Nat) : crowd n (fK n l r k) ∧ (fK n l r k).length = l.length := by
  have h := run_crowd (r := r) hc k
  have h2 := formK_crowd h.1 n.toNat
  exact ⟨h2.1, h2.2.trans h.2⟩
theorem fresh_le {n : Int} {l r : List Int} (hc : crowd n l) {k : Nat} (h : fresh (fK n l r) k) : k ≤ 4096 := by
  have := crowds_le (n := n) (fresh_nodup h) fun x hx => by
    obtain ⟨i, _, rfl⟩ := List.mem_map.1 hx
    exact (fK_crowd hc i).1
  rwa [List.length_map, List.length_range] at this
theorem fK_stuck {n : Int} {l r : List Int} {k : Nat} (h : ¬ stepOk n (runL n l r k) r) : fK n l r (k + 1) ∈ fS n l r (k + 1) := by
  have e : fK n l r (k + 1) = fK n l r k := by unfold fK; rw [(run_no h).1]
  rw [e, fS_succ]
  exact List.mem_append.2 (.inr (List.mem_singleton.2 rfl))
noncomputable def foN (n : Int) (l r : List Int) : Nat := foK (fK n l r) 5000 0
theorem foN_stop {n : Int} {l r : List Int} (hc : crowd n l) {k : Nat} (h : fresh (fK n l r) k) (h2 : fK n l r k ∈ fS n l r k) : foN n l r = k :=
  foK_stop h (by have := fresh_le hc h; omega) h2
theorem fS_in {n : Int} {l r : List Int} (hc : crowd n l) (k : Nat) : ∀ x ∈ fS n l r k, x.length = l.length := fun x hx => by
  obtain ⟨i, _, rfl⟩ := List.mem_map.1 hx
  exact (fK_crowd hc i).2
noncomputable def foR (n : Int) (l r : List Int) : Int := if crowd n l ∧ isRule r then (foN n l r : Nat) else 0
theorem fo_yes {n : Int} {l r : List Int} (h : crowd n l ∧ isRule r) : foR n l r = (foN n l r : Nat) := if_pos h
theorem fo_no {n : Int} {l r : List Int} (h : ¬ (crowd n l ∧ isRule r)) : foR n l r = 0 := if_neg h
abbrev crw (n : Int) (x : List Int) : AV := .agg [i64 n, ints x]
end Sx
