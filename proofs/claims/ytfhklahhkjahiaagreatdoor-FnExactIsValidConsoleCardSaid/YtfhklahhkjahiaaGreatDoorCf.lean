/- Contracts: new yards. -/
import Derived.Test.YtfhklahhkjahiaaGreatDoorCe
set_option linter.all false
namespace Sx
open Go Go.Proofs
set_option maxRecDepth 100000
set_option maxHeartbeats 4000000
set_option linter.unusedSimpArgs false
set_option linter.unusedSectionVars false
variable [Glb]
def newY (n a : Int) : Yd := ⟨n, false, [a], [], [], 0⟩
theorem IsYard_cN (n a : Int) : C 15 [.agg [i64 n, .ff, .sl 1 [i64 a], .nilsl, .nilsl, i64 0]] [] (pr (good (newY n a))) [] false :=
  (IsYard_c (newY n a) ⟨by simp [newY], by simp [newY], by simp [newY]⟩).arg ⟨⟨⟨rfl, rfl⟩, Bool.false_ne_true, ⟨rfl, rfl⟩, rfl, rfl, ⟨rfl, rfl⟩, trivial⟩, trivial⟩
noncomputable def newW (n a : Int) : Yd := if good (newY n a) then newY n a else ⟨0, false, [], [], [], 0⟩
theorem newW_fit (n a : Int) : (newW n a).w.length ≤ 1 ∧ (newW n a).S = [] ∧ (newW n a).K = [] := by
  unfold newW; split <;> simp [newY]
theorem newW_yes {n a : Int} (h : good (newY n a)) : newW n a = newY n a := if_pos h
theorem newW_no {n a : Int} (h : ¬ good (newY n a)) : newW n a = ⟨0, false, [], [], [], 0⟩ := if_neg h
theorem l12Good_cM (n a : Int) : C 11 [yv (newY n a)] [] (pr (good (newY n a))) [] false := l12Good_c (newY n a) ⟨by simp [newY], by simp [newY], by simp [newY]⟩
theorem eqYard_cP (n : Int) (b : Bool) (w : List Int) (S : List (Int × Int)) (K : List (Int × Int × Int)) (c : Int) (n' : Int) (b' : Bool) (w' : List Int) (S' : List (Int × Int)) (K' : List (Int × Int × Int)) (c' : Int)
    (h1 : w.length ≤ 1099511627776) (h2 : S.length ≤ 1099511627776) (h3 : K.length ≤ 1099511627776) (h4 : w'.length ≤ 1099511627776) (h5 : S'.length ≤ 1099511627776) (h6 : K'.length ≤ 1099511627776) :
    C 17 [.agg [i64 n, bv b, ints w, sens S, cars K, i64 c], .agg [i64 n', bv b', ints w', sens S', cars K', i64 c']] [] (pr (Yd.mk n b w S K c = Yd.mk n' b' w' S' K' c')) [] false := eqYard_c ⟨n, b, w, S, K, c⟩ ⟨n', b', w', S', K', c'⟩ ⟨h1, h2, h3⟩ ⟨h4, h5, h6⟩
end Sx
