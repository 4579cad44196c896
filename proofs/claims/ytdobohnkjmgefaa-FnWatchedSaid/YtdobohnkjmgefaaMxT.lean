/- Plain words: many jobs. -/
import Derived.Test.YtdobohnkjmgefaaMxN
set_option linter.all false
namespace Sx
def z4 : Jb := ⟨0, 0, 0, 0⟩
theorem z4_eq : z4 = ⟨0, 0, 0, 0⟩ := rfl
@[simp] theorem jb_eta (j : Jb) : (⟨j.k, j.a, j.b, j.c⟩ : Jb) = j := rfl
def yAt (y : Yd) (L : List Jb) : Nat → Yd
  | 0 => y
  | i + 1 => nxt (yAt y L i) (L.getD i z4)
noncomputable def runF (p : Nat → Prop) : Nat → Nat → Nat
  | 0, i => i
  | f + 1, i => @ite _ (p i) (Classical.propDecidable _) (runF p f (i + 1)) i
theorem runF_stop {p : Nat → Prop} {j : Nat} (hj : ¬ p j) : ∀ f i, i ≤ j → j ≤ i + f → (∀ x, i ≤ x → x < j → p x) → runF p f i = j
  | 0, i, h1, h2, _ => by unfold runF; omega
  | f + 1, i, h1, h2, h => by
    unfold runF
    by_cases e : i = j
    · subst e; rw [if_neg hj]
    · rw [if_pos (h i (Nat.le_refl _) (by omega))]
      exact runF_stop hj f (i + 1) (by omega) (by omega) fun x hx hx2 => h x (by omega) hx2
theorem runF_all {p : Nat → Prop} {j : Nat} : ∀ f i, i + f = j → (∀ x, i ≤ x → x < j → p x) → runF p f i = j
  | 0, i, h1, _ => by unfold runF; omega
  | f + 1, i, h1, h => by
    unfold runF
    rw [if_pos (h i (Nat.le_refl _) (by omega))]
    exact runF_all f (i + 1) (by omega) fun x hx hx2 => h x (by omega) hx2
def okAtJ (y : Yd) (L : List Jb) (i : Nat) : Prop := doOk (yAt y L i) (L.getD i z4)
noncomputable def runN (y : Yd) (L : List Jb) : Nat := runF (okAtJ y L) L.length 0
theorem run_stop {y : Yd} {L : List Jb} {i : Nat} (hi : i ≤ L.length) (h : ∀ x < i, okAtJ y L x) (hn : ¬ okAtJ y L i) : runN y L = i := runF_stop hn _ 0 (Nat.zero_le _) (by omega) fun x _ hx => h x hx
theorem run_full {y : Yd} {L : List Jb} (h : ∀ x < L.length, okAtJ y L x) : runN y L = L.length := runF_all _ 0 (by omega) fun x _ hx => h x hx
theorem yAt_good {y : Yd} {L : List Jb} (hg : good y) : ∀ {i : Nat}, (∀ x < i, okAtJ y L x) → good (yAt y L i)
  | 0, _ => hg
  | i + 1, h => (h i (by omega)).2
theorem good_fit {y : Yd} (hg : good y) : fitY 1099511627776 y := by
  have h1 : (y.w.length : Int) ≤ 61 := hg.2.1.1.2
  have h2 := hg.2.2.1.2
  have h3 := hg.2.2.2.1.2
  exact ⟨by omega, by omega, by omega⟩
theorem getJ {L : List Jb} {i : Nat} (h : i < L.length) : L.getD i z4 = L[i] := by rw [List.getD_eq_getElem?_getD, List.getElem?_eq_getElem h]; rfl
noncomputable def waY (y : Yd) (L : List Jb) : Yd := if good y then yAt y L (runN y L) else zeroY
noncomputable def waN (y : Yd) (L : List Jb) : Int := if good y then (runN y L : Int) else 0
theorem waY_yes {y : Yd} {L : List Jb} (h : good y) : waY y L = yAt y L (runN y L) := if_pos h
theorem waY_no {y : Yd} {L : List Jb} (h : ¬ good y) : waY y L = zeroY := if_neg h
theorem waN_yes {y : Yd} {L : List Jb} (h : good y) : waN y L = (runN y L : Int) := if_pos h
theorem waN_no {y : Yd} {L : List Jb} (h : ¬ good y) : waN y L = 0 := if_neg h
abbrev jobs (L : List Jb) : AV := .sl 4 (L.map jv)
abbrev rowJ (L : List Jb) : Ent := .row .plain 4 (L.map jv)
theorem pureJ {L : List Jb} : ∀ e ∈ L.map jv, pure2 e = true := fun e he => by
  obtain ⟨s, _, rfl⟩ := List.mem_map.1 he
  rfl
theorem runF_le {p : Nat → Prop} : ∀ f i, runF p f i ≤ i + f
  | 0, i => by unfold runF; omega
  | f + 1, i => by
    unfold runF
    split
    · have := runF_le (p := p) f (i + 1); omega
    · omega
theorem runF_sat {p : Nat → Prop} : ∀ f i x, i ≤ x → x < runF p f i → p x
  | 0, i, x, h1, h2 => by unfold runF at h2; omega
  | f + 1, i, x, h1, h2 => by
    unfold runF at h2
    split at h2
    · rename_i hp
      by_cases e : x = i
      · subst e; exact hp
      · exact runF_sat f (i + 1) x (by omega) h2
    · omega
theorem waY_fit {y : Yd} {L : List Jb} : fitY 1099511627776 (waY y L) := by
  by_cases h : good y
  · rw [waY_yes h]
    exact good_fit (yAt_good h fun x hx => runF_sat _ 0 x (Nat.zero_le _) hx)
  · rw [waY_no h]; exact ⟨by simp [zeroY], by simp [zeroY], by simp [zeroY]⟩
theorem jb_ext {a b : Jb} (h1 : a.k = b.k) (h2 : a.a = b.a) (h3 : a.b = b.b) (h4 : a.c = b.c) : a = b := by
  cases a; cases b; simp_all
theorem esetJ {l : List Jb} {j : Nat} {p q r s : Int} {K : List AV → Prop} (hk : K ((l.set j ⟨p, q, r, s⟩).map jv)) : eqL ((l.map jv).set j (.agg [.int .i64 p, .int .i64 q, .int .i64 r, .int .i64 s])) K := .mk _ (by rw [List.map_set]; rfl) hk
noncomputable instance : DecidableEq Jb := fun _ _ => Classical.propDecidable _
def marksJ (k : Int) (n : Nat) : List Jb := (List.range n).map fun i => ⟨k + 4 * (i : Nat), k + 4 * (i : Nat) + 1, k + 4 * (i : Nat) + 2, k + 4 * (i : Nat) + 3⟩
@[simp] theorem marksJ_len (k : Int) (n : Nat) : (marksJ k n).length = n := by simp [marksJ]
theorem marksJ_succ (k : Int) (n : Nat) : marksJ k (n + 1) = marksJ k n ++ [⟨k + 4 * (n : Nat), k + 4 * (n : Nat) + 1, k + 4 * (n : Nat) + 2, k + 4 * (n : Nat) + 3⟩] := by simp [marksJ, List.range_succ]
theorem gsetJ {M : List Jb} {j : Nat} {x : Jb} {K : AV → Prop} (h : j < M.length) (hk : K (jv x)) : getP ((M.set j x).map jv) j K := .mk (jv x) (by rw [nth_eq, List.getElem?_map, List.getElem?_set_self h]; rfl) hk
theorem esetJ2 {l : List Jb} {j : Nat} {x : Jb} {p q r s : Int} {K : List AV → Prop} (hk : K ((l.set j ⟨p, q, r, s⟩).map jv)) : eqL (((l.set j x).map jv).set j (.agg [.int .i64 p, .int .i64 q, .int .i64 r, .int .i64 s])) K := .mk _ (by rw [List.map_set, List.set_set, List.map_set]; rfl) hk
end Sx
