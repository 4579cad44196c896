/- Tables of truths while they are filled, and the first free walk. -/
import Derived.Test.YtbgamclegbaalaaMxI
set_option linter.all false
namespace Sx
set_option linter.unusedSimpArgs false
set_option linter.unusedVariables false
/-- A list of truths. -/
noncomputable abbrev trs (l : List Prop) : AV := .sl 1 (l.map fun p => .prop p (Classical.propDecidable p))
noncomputable def arow (n : Int) (b : Bool) (L : List (List Int)) (T t k : Nat) : List Prop := (List.range k).map (aliv n b L T t)
noncomputable def atab (n : Int) (b : Bool) (L : List (List Int)) (T u : Nat) : List (List Prop) := (List.range (T + 1)).map fun t => if t < u then [] else arow n b L T t n.toNat
noncomputable def atK (n : Int) (b : Bool) (L : List (List Int)) (T t k : Nat) : List (List Prop) := (atab n b L T (t + 1)).set t (arow n b L T t k)
section
variable {n : Int} {b : Bool} {L : List (List Int)} {T t k : Nat}
@[simp] theorem arow_len : (arow n b L T t k).length = k := by simp [arow]
theorem arow_get {q : Nat} (h : q < (arow n b L T t k).length) : (arow n b L T t k)[q] = aliv n b L T t q := by simp [arow]
theorem arow_succ : arow n b L T t (k + 1) = arow n b L T t k ++ [aliv n b L T t k] := by simp [arow, List.range_succ]
theorem atab_len (u : Nat) : (atab n b L T u).length = T + 1 := by simp [atab]
theorem atK_len : (atK n b L T t k).length = T + 1 := by simp [atK, atab]
theorem atab_all : List.replicate (T + 1) ([] : List Prop) = atab n b L T (T + 1) := by
  apply List.ext_getElem
  · simp [atab]
  · intro i h1 h2
    simp [atab] at h2 ⊢
    omega
theorem atab_get {u i : Nat} (h : i < (atab n b L T u).length) : (atab n b L T u)[i] = if i < u then [] else arow n b L T i n.toNat := by simp [atab]
theorem atK_0 (h : t ≤ T) : atab n b L T (t + 1) = atK n b L T t 0 := by
  unfold atK
  apply List.ext_getElem
  · simp
  · intro i h1 h2
    rw [List.getElem_set, atab_get]
    by_cases e : t = i
    · subst e; rw [if_pos rfl]; simp [arow]
    · rw [if_neg e]
theorem atK_n : atK n b L T t n.toNat = atab n b L T t := by
  unfold atK
  apply List.ext_getElem
  · simp [atab]
  · intro i h1 h2
    rw [List.getElem_set, atab_get, atab_get]
    by_cases e : t = i
    · subst e; rw [if_pos rfl]; simp
    · rw [if_neg e]
      by_cases e2 : i < t
      · rw [if_pos (by omega), if_pos e2]
      · rw [if_neg (by omega), if_neg e2]
theorem atK_get {i : Nat} (h : i < (atK n b L T t k).length) : (atK n b L T t k)[i] = if t = i then arow n b L T t k else (atab n b L T (t + 1)).getD i [] := by
  have e : ∀ l : List (List Prop), l = atK n b L T t k → ∀ h : i < l.length, l[i] = if t = i then arow n b L T t k else (atab n b L T (t + 1)).getD i [] := by
    intro l hl h
    subst hl
    have h2 : i < (atab n b L T (t + 1)).length := by rw [atab_len]; rw [atK_len] at h; exact h
    have : ((atab n b L T (t + 1)).set t (arow n b L T t k))[i]'(by simpa using h2) = _ := List.getElem_set ..
    refine Eq.trans this ?_
    rw [List.getD_eq_getElem?_getD]
    simp [h2]
  exact e _ rfl h
theorem atK_at (h : t < (atK n b L T t k).length) : (atK n b L T t k)[t] = arow n b L T t k := by
  rw [atK_get, if_pos rfl]
theorem atK_next (h : t + 1 < (atK n b L T t k).length) : (atK n b L T t k)[t + 1] = arow n b L T (t + 1) n.toNat := by
  rw [atK_get, if_neg (by omega), List.getD_eq_getElem?_getD]
  rw [atK_len] at h
  have h2 : t + 1 < (atab n b L T (t + 1)).length := by rw [atab_len]; omega
  rw [List.getElem?_eq_getElem h2, atab_get, if_neg (by omega)]
  rfl
theorem atK_set : (atK n b L T t k).set t (arow n b L T t (k + 1)) = atK n b L T t (k + 1) := by
  unfold atK
  rw [List.set_set]
theorem knownTr {M : List (List Prop)} : knownL (M.map trs) := fun e he v hv => by
  obtain ⟨l, _, rfl⟩ := List.mem_map.1 he
  simp [cellsOf] at hv
  subst hv
  rfl
theorem pureTr {M : List (List Prop)} : ∀ e ∈ M.map trs, pureN e := fun e he => by
  obtain ⟨l, _, rfl⟩ := List.mem_map.1 he
  intro v hv
  obtain ⟨p, _, rfl⟩ := List.mem_map.1 hv
  rfl
theorem erepT {m : Nat} {KL : List AV → Prop} (hk : KL ((List.replicate m ([] : List Prop)).map trs)) : eqL (List.replicate m (.sl 1 [])) KL := .mk _ (by simp [trs]) hk
theorem esetT {M : List (List Prop)} {l : List Prop} {k k' : Nat} {KL : List AV → Prop} (h : k' = k) (hk : KL ((M.set k l).map trs)) : eqL (((M.map trs).set k .unk).set k' (.sl 1 (l.map fun p => AV.prop p (Classical.propDecidable p)))) KL := .mk _ (by subst h; rw [List.set_set, List.map_set]) hk
theorem eaT {l : List Prop} {p q : Prop} {d : Decidable p} {KL : List AV → Prop} (h : p ↔ q) (hk : KL ((l ++ [q]).map fun p => AV.prop p (Classical.propDecidable p))) : eqL ((l.map fun p => AV.prop p (Classical.propDecidable p)) ++ [AV.prop p d]) KL := .mk _ (by rw [List.map_append, List.map_cons, List.map_nil, prop_eq (e := Classical.propDecidable q) h]) hk
theorem trow_eq {M : List (List Prop)} {l : List Prop} {p q : Prop} {d : Decidable p} {k k' : Nat} (hk : k' = k) (h : p ↔ q) : ((M.map trs).set k .unk).set k' (.sl 1 ((l.map fun p => AV.prop p (Classical.propDecidable p)) ++ [(0, AV.prop p d).2])) = (M.set k (l ++ [q])).map trs := by
  subst hk
  rw [List.set_set, List.map_set]
  congr 1
  show _ = trs (l ++ [q])
  unfold trs
  rw [List.map_append, List.map_cons, List.map_nil, prop_eq (d := d) (e := Classical.propDecidable q) h]
theorem atK_step {n : Int} {b : Bool} {L : List (List Int)} {T t k : Nat} {p : Prop} {d : Decidable p} {k' : Nat} (hk : k' = t) (h : p ↔ aliv n b L T t k) : (((atK n b L T t k).map trs).set t .unk).set k' (.sl 1 (((arow n b L T t k).map fun p => AV.prop p (Classical.propDecidable p)) ++ [(0, AV.prop p d).2])) = (atK n b L T t (k + 1)).map trs := by
  rw [trow_eq hk h, ← arow_succ, atK_set]
/-- The next place as the program looks for it: from above. -/
def nxI (n : Int) (b : Bool) (L : List (List Int)) (T t : Nat) (l : List Int) (q : Nat) (m : Int) : Prop :=
  (m = -1 ∧ ∀ p, q ≤ p → p < n.toNat → ¬ nextP n b L T t l p) ∨ ∃ p : Nat, m = p ∧ q ≤ p ∧ p < n.toNat ∧ nextP n b L T t l p ∧ ∀ p', q ≤ p' → p' < p → ¬ nextP n b L T t l p'
section
variable {n : Int} {b : Bool} {L : List (List Int)} {T t : Nat} {l : List Int} {q : Nat} {m : Int}
theorem nxI_0 : nxI n b L T t l n.toNat (-1) := .inl ⟨rfl, fun p h h2 => by omega⟩
theorem nxI_bd (h : nxI n b L T t l q m) : -1 ≤ m ∧ m < n.toNat := by
  rcases h with h | ⟨p, h⟩ <;> omega
theorem nxI_no (h : nxI n b L T t l (q + 1) m) (h2 : ¬ nextP n b L T t l q) : nxI n b L T t l q m := by
  rcases h with ⟨e, h⟩ | ⟨p, e, h3, h4, h5, h6⟩
  · refine .inl ⟨e, fun p hp hn => ?_⟩
    by_cases e2 : p = q
    · subst e2; exact h2
    · exact h p (by omega) hn
  · refine .inr ⟨p, e, by omega, h4, h5, fun p' hp hn => ?_⟩
    by_cases e2 : p' = q
    · subst e2; exact h2
    · exact h6 p' (by omega) hn
theorem nxI_yes (hq : q < n.toNat) (h2 : nextP n b L T t l q) : nxI n b L T t l q q := .inr ⟨q, rfl, by omega, hq, h2, fun p' h h' => by omega⟩
theorem nxI_none (h : nxI n b L T t l 0 m) (hm : m < 0) (hl : fwN n b L T t = some l) : fwN n b L T (t + 1) = none := by
  rcases h with ⟨e, h⟩ | ⟨p, e, h⟩
  · unfold fwN; rw [hl, Option.bind_some, nextQ_none fun p hp => h p (by omega) hp]; rfl
  · omega
theorem nxI_some (h : nxI n b L T t l 0 m) (hm : ¬ m < 0) (hl : fwN n b L T t = some l) : fwN n b L T (t + 1) = some (l ++ [m]) := by
  rcases h with ⟨e, h⟩ | ⟨p, rfl, _, h3, h4, h5⟩
  · omega
  · unfold fwN; rw [hl, Option.bind_some, nextQ_some h3 h4 fun p' hp => h5 p' (by omega) hp]; rfl
end
/-- The walk, if there is one. -/
def fwOk (n : Int) (b : Bool) (L : List (List Int)) : Prop := chasers n b L ∧ fwN n b L (lng L - 1).toNat ((lng L - 1).toNat + 1) ≠ none
open Classical in
noncomputable instance : Decidable (fwOk n b L) := propDecidable _
noncomputable def fwR (n : Int) (b : Bool) (L : List (List Int)) : List Int := if fwOk n b L then (fwN n b L (lng L - 1).toNat ((lng L - 1).toNat + 1)).getD [] else []
theorem fwR_no (h : ¬ fwOk n b L) : fwR n b L = [] := if_neg h
theorem fwR_yes {l : List Int} (hc : chasers n b L) (hT : lng L = T + 1) (h : fwN n b L T (T + 1) = some l) : fwR n b L = l ∧ fwOk n b L := by
  have e : (lng L - 1).toNat = T := by omega
  have h2 : fwOk n b L := ⟨hc, by rw [e, h]; nofun⟩
  exact ⟨by unfold fwR; rw [if_pos h2, e, h]; rfl, h2⟩
theorem fwOk_no (hT : lng L = T + 1) {t : Nat} (ht : t ≤ T + 1) (h : fwN n b L T t = none) : ¬ fwOk n b L := fun h2 => by
  have e : (lng L - 1).toNat = T := by omega
  have := h2.2
  rw [e] at this
  exact this (fwN_none h ht)
theorem fwR_len : (fwR n b L).length ≤ 1048576 := by
  unfold fwR
  split
  · rename_i h
    cases hq : fwN n b L (lng L - 1).toNat ((lng L - 1).toNat + 1) with
    | none => simp
    | some l =>
      have h1 := fwN_len hq
      have h2 := (lng_bd L (chasers_len h.1)).2.1
      simp only [Option.getD_some]
      omega
  · simp
end
end Sx
