/- Plain words about work in a yard. -/
import Derived.Test.YtdobohnkjmgefaaMxK
set_option linter.all false
namespace Sx
set_option linter.unusedSimpArgs false
set_option linter.unusedVariables false
theorem del_num {α : Type} {f : α → AV} {l : List α} {p : Nat} (hp : p < l.length) : p - 0 + (List.take ((l.map f).length - (p + 1)) (List.drop (p + 1) (l.map f))).length = l.length - 1 := by
  rw [List.length_take, List.length_drop, List.length_map]; omega
theorem del_row {l : List (Int × Int)} {p N m : Nat} {z : AV} (hp : p < l.length) (hN : N = l.length - 1) (hm : m = l.length) (hz : z = sen (0, 0)) :
    List.take (0 + N) (List.take (p - 0) (l.map sen) ++ List.take ((l.map sen).length - (p + 1)) (List.drop (p + 1) (l.map sen)) ++ List.drop N (l.map sen)) ++ List.replicate (m - N) z ++
      List.drop (0 + N + (m - N)) (List.take (p - 0) (l.map sen) ++ List.take ((l.map sen).length - (p + 1)) (List.drop (p + 1) (l.map sen)) ++ List.drop N (l.map sen)) = (l.eraseIdx p ++ [(0, 0)]).map sen := by
  subst hN; subst hm; subst hz
  have e1 : List.take ((l.map sen).length - (p + 1)) (List.drop (p + 1) (l.map sen)) = List.drop (p + 1) (l.map sen) := List.take_of_length_le (by simp)
  have e2 : (List.take (p - 0) (l.map sen) ++ List.drop (p + 1) (l.map sen)).length = l.length - 1 := by simp; omega
  have e3 : (l.eraseIdx p ++ [(0, 0)]).map sen = List.take (p - 0) (l.map sen) ++ List.drop (p + 1) (l.map sen) ++ [sen (0, 0)] := by
    rw [List.eraseIdx_eq_take_drop_succ, List.map_append, List.map_append, List.map_take, List.map_drop, Nat.sub_zero]
    rfl
  rw [e3, e1]
  generalize List.take (p - 0) (l.map sen) ++ List.drop (p + 1) (l.map sen) = X at e2 ⊢
  rw [Nat.zero_add, List.take_left' e2, show l.length - (l.length - 1) = 1 by omega, List.drop_of_length_le (by rw [List.length_append, List.length_drop, List.length_map]; omega), List.append_nil]
  rfl
theorem pureY {n c : Int} {b : Bool} {i j k : Nat} : ∀ e ∈ [AV.agg [i64 n, bv b, .loc i, .loc j, .loc k, i64 c]], pure2 e = true := fun e he => by
  cases List.mem_singleton.1 he
  cases b <;> rfl
theorem senA {S : List (Int × Int)} {a b : Int} : S.map sen ++ [AV.agg [(0, i64 a).2, (1, i64 b).2]] = (S ++ [(a, b)]).map sen := by rw [List.map_append]; rfl
theorem carA {K : List (Int × Int × Int)} {a b c : Int} : K.map car ++ [AV.agg [(0, i64 a).2, (1, i64 b).2, (2, i64 c).2]] = (K ++ [(a, b, c)]).map car := by rw [List.map_append]; rfl
theorem takeW {w : List Int} (h : 1 ≤ (w.length : Int)) : List.take (((w.length : Int) - 1).toNat - 0) (w.map i64) = (w.take (w.length - 1)).map i64 := by
  rw [List.map_take, show ((w.length : Int) - 1).toNat - 0 = w.length - 1 by omega]
theorem del_row2 {l : List (Int × Int)} {p N : Nat} (hp : p < l.length) (hN : N = l.length - 1) :
    List.take N (List.take (p - 0) (l.map sen) ++ List.take ((l.map sen).length - (p + 1)) (List.drop (p + 1) (l.map sen)) ++ List.drop N (l.map sen)) = (l.eraseIdx p).map sen := by
  subst hN
  have e1 : List.take ((l.map sen).length - (p + 1)) (List.drop (p + 1) (l.map sen)) = List.drop (p + 1) (l.map sen) := List.take_of_length_le (by simp)
  have e2 : (List.take (p - 0) (l.map sen) ++ List.drop (p + 1) (l.map sen)).length = l.length - 1 := by simp; omega
  have e3 : (l.eraseIdx p).map sen = List.take (p - 0) (l.map sen) ++ List.drop (p + 1) (l.map sen) := by
    rw [List.eraseIdx_eq_take_drop_succ, List.map_append, List.map_take, List.map_drop, Nat.sub_zero]
  rw [e3, e1, List.take_left' e2]
/-- A job: its kind and three numbers. -/
structure Jb where
  k : Int
  a : Int
  b : Int
  c : Int
abbrev jv (j : Jb) : AV := .agg [i64 j.k, i64 j.a, i64 j.b, i64 j.c]
/-- May it be done? -/
def may (y : Yd) (j : Jb) : Prop :=
  (j.k = 1 ∧ (-1 ≤ j.a ∧ j.a ≤ 1) ∧ j.b = 0 ∧ j.c = 0) ∨ (j.k = 2 ∧ 1 < (y.w.length : Int) ∧ j.a = 0 ∧ j.b = 0 ∧ j.c = 0) ∨ (j.k = 3 ∧ j.c = 0) ∨
  (j.k = 4 ∧ (0 ≤ j.a ∧ j.a < (y.S.length : Int)) ∧ j.c = 0) ∨ (j.k = 5 ∧ (0 ≤ j.a ∧ j.a < (y.S.length : Int)) ∧ j.b = 0 ∧ j.c = 0) ∨ j.k = 6
instance (y : Yd) (j : Jb) : Decidable (may y j) := by unfold may; infer_instance
/-- What it makes. -/
def made (y : Yd) (j : Jb) : Yd :=
  if j.k = 1 then { y with w := y.w ++ [y.w.getD (y.w.length - 1) 0 + max (-1) (min 1 j.a)] }
  else if j.k = 2 then { y with w := y.w.take (y.w.length - 1) }
  else if j.k = 3 then { y with S := y.S ++ [(j.a, j.b)] }
  else if j.k = 4 then { y with S := y.S.set j.a.toNat (j.b, (y.S.getD j.a.toNat (0, 0)).2) }
  else if j.k = 5 then { y with S := y.S.eraseIdx j.a.toNat }
  else if j.k = 6 then { y with K := y.K ++ [(j.a, j.b, j.c)] }
  else y
/-- The yard behind a job: one more is counted. -/
def nxt (y : Yd) (j : Jb) : Yd := { made y j with c := y.c + 1 }
def zeroY : Yd := ⟨0, false, [], [], [], 0⟩
def doOk (y : Yd) (j : Jb) : Prop := may y j ∧ good (nxt y j)
noncomputable instance (y : Yd) (j : Jb) : Decidable (doOk y j) := Classical.propDecidable _
noncomputable def doR (y : Yd) (j : Jb) : Yd := if doOk y j then nxt y j else zeroY
def wkOk (y : Yd) (j : Jb) : Prop := good y ∧ doOk y j
noncomputable instance (y : Yd) (j : Jb) : Decidable (wkOk y j) := Classical.propDecidable _
noncomputable def wkR (y : Yd) (j : Jb) : Yd := if wkOk y j then nxt y j else zeroY
theorem doR_yes {y : Yd} {j : Jb} (h : doOk y j) : doR y j = nxt y j := if_pos h
theorem doR_no {y : Yd} {j : Jb} (h : ¬ doOk y j) : doR y j = zeroY := if_neg h
theorem wkR_yes {y : Yd} {j : Jb} (h : wkOk y j) : wkR y j = nxt y j := if_pos h
theorem wkR_no {y : Yd} {j : Jb} (h : ¬ wkOk y j) : wkR y j = zeroY := if_neg h
theorem wkR_do {y : Yd} {j : Jb} (h : good y) : wkR y j = doR y j := by
  by_cases hd : doOk y j
  · rw [doR_yes hd, wkR_yes ⟨h, hd⟩]
  · rw [doR_no hd, wkR_no (fun x => hd x.2)]
end Sx
