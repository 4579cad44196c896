/- Contracts: new yards. -/
import Derived.Test.YtdobohnkjmgefaaCe
set_option linter.all false
namespace Sx
open Go Go.Proofs
set_option maxRecDepth 100000
set_option maxHeartbeats 4000000
set_option linter.unusedSimpArgs false
set_option linter.unusedSectionVars false
variable [Glb]
theorem l1Own_c (l : List Int) (hl : l.length ≤ 1099511627776) : C 169 [ints l] [] (.loc 0) [row l] false := by
  refine mkC false false Try.func169 rfl ?_
  refine And.intro nofun ?_
  iterate 6 refine Z ?_
  refine lem0 (by omega) ?_
  rotate_left
  refine doneV.mk [] [0] rfl rfl ?_ ?_ ?_
  repeat' first | exact trivial | exact rfl | exact Iff.rfl | assumption | exact pureI | refine And.intro ?_ ?_
theorem l12Own_c (y : Yd) (hy : fitY 1099511627776 y) : C 127 [yv y] [] (.agg [i64 y.n, bv y.b, .loc 0, .loc 1, .loc 2, i64 y.c]) [row y.w, rowS y.S, rowK y.K] false := by
  have h1 := hy.1
  have h2 := hy.2.1
  have h3 := hy.2.2
  refine mkC false false Try.func127 rfl ?_
  refine And.intro nofun ?_
  iterate 8 refine Z ?_
  refine callW.mk [] 3 _ _ _ (l1Own_c _ (by first | omega | assumption | (simp; omega) | (simp; done))) rfl rfl trivial nofun ?_
  iterate 12 refine Z ?_
  refine lem0 (by omega) ?_
  iterate 12 refine Z ?_
  refine lem0 (by omega) ?_
  iterate 9 refine Z ?_
  rotate_left
  refine doneV.mk [] [3, 4, 5] rfl rfl ?_ ?_ ?_
  repeat' first | exact trivial | exact rfl | exact Iff.rfl | assumption | exact pureI | refine And.intro ?_ ?_
  · exact pureSen
  · exact pureCar
theorem markSensorS_c (l : List (Int × Int)) (hl : l.length ≤ 1099511627776) (k : Int) (h0 : 0 ≤ k) (hk : k ≤ 4611686018427387904) : C 125 [.loc 0, i64 k] [rowS l] (i64 (k + 2 * l.length)) [rowS (marksS k l.length)] false := by
  refine mkC false false Try.func125 rfl ?_
  refine And.intro nofun ?_
  rotate_left
  refine loop_up (β := Nat) (fun j => [(5, i64 j), (1, i64 (k + 2 * j))]) (fun j => [(0, rowS (marksS k j ++ l.drop j))]) [] (fun j => j ≤ l.length) (fun j => l.length - j) (0) ?_ ?_ ?_
  · omega
  · refine weak.mk [] [0] rfl rfl ?_ ?_
    repeat' first | exact trivial | exact rfl | exact Iff.rfl | assumption | refine And.intro ?_ ?_
    omega
  · rintro j hj R hR
    have hm : (marksS k j ++ l.drop j).length = l.length := by simp; omega
    by_cases hjl : j < l.length
    · refine lm ?_
      refine tY (by first | omega | assumption | exact rfl | exact Iff.rfl) ?_
      iterate 2 refine Z ?_
      refine jkm (by omega) ?_
      iterate 3 refine Z ?_
      refine gm (by omega) ?_
      refine Z ?_
      refine esetS ?_
      refine nw (by omega) (by omega) ?_
      iterate 2 refine Z ?_
      refine jkm (by simp; omega) ?_
      iterate 3 refine Z ?_
      refine gm (by simp; omega) ?_
      refine Z ?_
      refine esetS ?_
      iterate 2 refine nw (by omega) (by omega) ?_
      rotate_left
      refine hR (j + 1) _ _ ?_ (weak.mk [] [0] rfl rfl ?_ ?_)
      repeat' first | exact trivial | exact rfl | exact Iff.rfl | assumption | refine And.intro ?_ ?_
      · exact ⟨by omega, by omega⟩
      · omega
      · refine map_congr ?_
        rw [List.set_set, set_at (marksS_len k j) hjl, marksS_succ]
        simp
    · refine lm ?_
      refine tN (by first | omega | assumption | exact fun h => h (by assumption) | exact fun h => h rfl | exact fun h => h Iff.rfl) ?_
      rotate_left
      have e : j = l.length := by omega
      subst e
      refine doneV.mk [] [0] rfl rfl ?_ ?_ ?_
      repeat' first | exact trivial | exact rfl | exact Iff.rfl | assumption | exact pureI | refine And.intro ?_ ?_
      · rw [List.drop_length, List.append_nil]
      · exact pureSen
theorem heldSensorS_c (n : Nat) (hl : n ≤ 1099511627776) (k : Int) (h0 : 0 ≤ k) (hk : k ≤ 4611686018427387904) : C 132 [sens (marksS k n), i64 k] [] (i64 (k + 2 * n)) [] false := by
  refine mkC false false Try.func132 rfl ?_
  refine And.intro nofun ?_
  have hm := marksS_len k n
  rotate_left
  refine loop_up (β := Nat) (fun j => [(5, i64 j), (1, i64 (k + 2 * j)), (4, .unk)]) (fun j => []) [] (fun j => j ≤ n) (fun j => n - j) (0) ?_ ?_ ?_
  · omega
  · refine weak.mk [] [] rfl rfl ?_ ?_
    repeat' first | exact trivial | exact rfl | exact Iff.rfl | assumption | refine And.intro ?_ ?_
    omega
  · rintro j hj R hR
    have hg : ∀ h : j < (marksS k n).length, (marksS k n)[j].1 = k + 2 * j ∧ (marksS k n)[j].2 = k + 2 * j + 1 := fun h => by rw [marksS_get h]; exact ⟨rfl, rfl⟩
    by_cases hjl : j < (marksS k n).length
    · obtain ⟨g1, g2⟩ := hg hjl
      refine lm ?_
      refine tY (by first | omega | assumption | exact rfl | exact Iff.rfl) ?_
      iterate 2 refine Z ?_
      refine jkm (by omega) ?_
      refine Z ?_
      refine gm (by omega) ?_
      refine tN (by first | omega | assumption | exact fun h => h (by assumption) | exact fun h => h rfl | exact fun h => h Iff.rfl) ?_
      refine nw (by omega) (by omega) ?_
      iterate 2 refine Z ?_
      refine jkm (by omega) ?_
      refine Z ?_
      refine gm (by omega) ?_
      refine tN (by first | omega | assumption | exact fun h => h (by assumption) | exact fun h => h rfl | exact fun h => h Iff.rfl) ?_
      iterate 2 refine nw (by omega) (by omega) ?_
      rotate_left
      refine hR (j + 1) _ _ ?_ (weak.mk [] [] rfl rfl ?_ ?_)
      repeat' first | exact trivial | exact rfl | exact Iff.rfl | assumption | refine And.intro ?_ ?_
      · exact ⟨by omega, by omega⟩
      · omega
    · refine lm ?_
      refine tN (by first | omega | assumption | exact fun h => h (by assumption) | exact fun h => h rfl | exact fun h => h Iff.rfl) ?_
      rotate_left
      have e : j = n := by omega
      subst e
      refine dv0 rfl ?_
      exact ⟨rfl, rfl⟩
theorem markCarrierS_c (l : List (Int × Int × Int)) (hl : l.length ≤ 1099511627776) (k : Int) (h0 : 0 ≤ k) (hk : k ≤ 4611686018427387904) : C 126 [.loc 0, i64 k] [rowK l] (i64 (k + 3 * l.length)) [rowK (marksK k l.length)] false := by
  refine mkC false false Try.func126 rfl ?_
  refine And.intro nofun ?_
  rotate_left
  refine loop_up (β := Nat) (fun j => [(5, i64 j), (1, i64 (k + 3 * j))]) (fun j => [(0, rowK (marksK k j ++ l.drop j))]) [] (fun j => j ≤ l.length) (fun j => l.length - j) (0) ?_ ?_ ?_
  · omega
  · refine weak.mk [] [0] rfl rfl ?_ ?_
    repeat' first | exact trivial | exact rfl | exact Iff.rfl | assumption | refine And.intro ?_ ?_
    omega
  · rintro j hj R hR
    have hm : (marksK k j ++ l.drop j).length = l.length := by simp; omega
    by_cases hjl : j < l.length
    · refine lm ?_
      refine tY (by first | omega | assumption | exact rfl | exact Iff.rfl) ?_
      iterate 2 refine Z ?_
      refine jkm (by omega) ?_
      iterate 3 refine Z ?_
      refine gm (by omega) ?_
      refine Z ?_
      refine esetK ?_
      refine nw (by omega) (by omega) ?_
      iterate 2 refine Z ?_
      refine jkm (by simp; omega) ?_
      iterate 3 refine Z ?_
      refine gm (by simp; omega) ?_
      refine Z ?_
      refine esetK ?_
      refine nw (by omega) (by omega) ?_
      iterate 2 refine Z ?_
      refine jkm (by simp; omega) ?_
      iterate 3 refine Z ?_
      refine gm (by simp; omega) ?_
      refine Z ?_
      refine esetK ?_
      iterate 2 refine nw (by omega) (by omega) ?_
      rotate_left
      refine hR (j + 1) _ _ ?_ (weak.mk [] [0] rfl rfl ?_ ?_)
      repeat' first | exact trivial | exact rfl | exact Iff.rfl | assumption | refine And.intro ?_ ?_
      · exact ⟨by omega, by omega⟩
      · omega
      · refine map_congr ?_
        rw [List.set_set, List.set_set, set_at (marksK_len k j) hjl, marksK_succ]
        simp
        try omega
    · refine lm ?_
      refine tN (by first | omega | assumption | exact fun h => h (by assumption) | exact fun h => h rfl | exact fun h => h Iff.rfl) ?_
      rotate_left
      have e : j = l.length := by omega
      subst e
      refine doneV.mk [] [0] rfl rfl ?_ ?_ ?_
      repeat' first | exact trivial | exact rfl | exact Iff.rfl | assumption | exact pureI | refine And.intro ?_ ?_
      · rw [List.drop_length, List.append_nil]
      · exact pureCar
theorem heldCarrierS_c (n : Nat) (hl : n ≤ 1099511627776) (k : Int) (h0 : 0 ≤ k) (hk : k ≤ 4611686018427387904) : C 133 [cars (marksK k n), i64 k] [] (i64 (k + 3 * n)) [] false := by
  refine mkC false false Try.func133 rfl ?_
  refine And.intro nofun ?_
  have hm := marksK_len k n
  rotate_left
  refine loop_up (β := Nat) (fun j => [(5, i64 j), (1, i64 (k + 3 * j)), (4, .unk)]) (fun j => []) [] (fun j => j ≤ n) (fun j => n - j) (0) ?_ ?_ ?_
  · omega
  · refine weak.mk [] [] rfl rfl ?_ ?_
    repeat' first | exact trivial | exact rfl | exact Iff.rfl | assumption | refine And.intro ?_ ?_
    omega
  · rintro j hj R hR
    have hg : ∀ h : j < (marksK k n).length, (marksK k n)[j].1 = k + 3 * j ∧ (marksK k n)[j].2.1 = k + 3 * j + 1 ∧ (marksK k n)[j].2.2 = k + 3 * j + 2 := fun h => by rw [marksK_get h]; exact ⟨rfl, rfl, rfl⟩
    by_cases hjl : j < (marksK k n).length
    · obtain ⟨g1, g2, g3⟩ := hg hjl
      refine lm ?_
      refine tY (by first | omega | assumption | exact rfl | exact Iff.rfl) ?_
      iterate 2 refine Z ?_
      refine jkm (by omega) ?_
      refine Z ?_
      refine gm (by omega) ?_
      refine tN (by first | omega | assumption | exact fun h => h (by assumption) | exact fun h => h rfl | exact fun h => h Iff.rfl) ?_
      refine nw (by omega) (by omega) ?_
      iterate 2 refine Z ?_
      refine jkm (by omega) ?_
      refine Z ?_
      refine gm (by omega) ?_
      refine tN (by first | omega | assumption | exact fun h => h (by assumption) | exact fun h => h rfl | exact fun h => h Iff.rfl) ?_
      refine nw (by omega) (by omega) ?_
      iterate 2 refine Z ?_
      refine jkm (by omega) ?_
      refine Z ?_
      refine gm (by omega) ?_
      refine tN (by first | omega | assumption | exact fun h => h (by assumption) | exact fun h => h rfl | exact fun h => h Iff.rfl) ?_
      iterate 2 refine nw (by omega) (by omega) ?_
      rotate_left
      refine hR (j + 1) _ _ ?_ (weak.mk [] [] rfl rfl ?_ ?_)
      repeat' first | exact trivial | exact rfl | exact Iff.rfl | assumption | refine And.intro ?_ ?_
      · exact ⟨by omega, by omega⟩
      · omega
    · refine lm ?_
      refine tN (by first | omega | assumption | exact fun h => h (by assumption) | exact fun h => h rfl | exact fun h => h Iff.rfl) ?_
      rotate_left
      have e : j = n := by omega
      subst e
      refine dv0 rfl ?_
      exact ⟨rfl, rfl⟩
theorem markYard_c (n : Int) (b : Bool) (c : Int) (w : List Int) (S : List (Int × Int)) (K : List (Int × Int × Int)) (h1 : w.length ≤ 1099511627776) (h2 : S.length ≤ 1099511627776) (h3 : K.length ≤ 1099511627776) :
    C 28 [.agg [i64 n, bv b, .loc 0, .loc 1, .loc 2, i64 c], i64 1] [row w, rowS S, rowK K] (i64 (1 + w.length + 2 * S.length + 3 * K.length)) [row (marks 1 w.length), rowS (marksS (1 + w.length) S.length), rowK (marksK (1 + w.length + 2 * S.length) K.length)] false := by
  refine mkC false false Try.func28 rfl ?_
  refine And.intro nofun ?_
  iterate 2 refine Z ?_
  refine callW.mk [0] 4 _ _ _ (markIntS_c _ (by first | omega | assumption | (simp; omega) | (simp; done)) _ (by first | omega | assumption | (simp; omega) | (simp; done)) (by first | omega | assumption | (simp; omega) | (simp; done))) rfl rfl trivial nofun ?_
  refine Z ?_
  refine callW.mk [1] 4 _ _ _ (markSensorS_c _ (by first | omega | assumption | (simp; omega) | (simp; done)) _ (by first | omega | assumption | (simp; omega) | (simp; done)) (by first | omega | assumption | (simp; omega) | (simp; done))) rfl rfl trivial nofun ?_
  refine Z ?_
  refine callW.mk [2] 4 _ _ _ (markCarrierS_c _ (by first | omega | assumption | (simp; omega) | (simp; done)) _ (by first | omega | assumption | (simp; omega) | (simp; done)) (by first | omega | assumption | (simp; omega) | (simp; done))) rfl rfl trivial nofun ?_
  rotate_left
  refine doneV.mk [] [0, 1, 2] rfl rfl ?_ ?_ ?_
  repeat' first | exact trivial | exact rfl | exact Iff.rfl | assumption | exact pureI | refine And.intro ?_ ?_
  · exact pureSen
  · exact pureCar
theorem heldYard_c (n : Int) (b : Bool) (c : Int) (a s k : Nat) (h1 : a ≤ 1099511627776) (h2 : s ≤ 1099511627776) (h3 : k ≤ 1099511627776) :
    C 37 [.agg [i64 n, bv b, ints (marks 1 a), sens (marksS (1 + a) s), cars (marksK (1 + a + 2 * s) k), i64 c], i64 1] [] (i64 (1 + a + 2 * s + 3 * k)) [] false := by
  refine mkC false false Try.func37 rfl ?_
  refine And.intro nofun ?_
  iterate 2 refine Z ?_
  refine callW.mk [] 1 _ _ _ (heldIntS_c _ (by first | omega | assumption | (simp; omega) | (simp; done)) _ (by first | omega | assumption | (simp; omega) | (simp; done)) (by first | omega | assumption | (simp; omega) | (simp; done))) rfl rfl trivial nofun ?_
  refine tN (by first | omega | assumption | exact fun h => h (by assumption) | exact fun h => h rfl | exact fun h => h Iff.rfl) ?_
  refine Z ?_
  refine callW.mk [] 1 _ _ _ (heldSensorS_c _ (by first | omega | assumption | (simp; omega) | (simp; done)) _ (by first | omega | assumption | (simp; omega) | (simp; done)) (by first | omega | assumption | (simp; omega) | (simp; done))) rfl rfl trivial nofun ?_
  refine tN (by first | omega | assumption | exact fun h => h (by assumption) | exact fun h => h rfl | exact fun h => h Iff.rfl) ?_
  refine Z ?_
  refine callW.mk [] 1 _ _ _ (heldCarrierS_c _ (by first | omega | assumption | (simp; omega) | (simp; done)) _ (by first | omega | assumption | (simp; omega) | (simp; done)) (by first | omega | assumption | (simp; omega) | (simp; done))) rfl rfl trivial nofun ?_
  refine tN (by first | omega | assumption | exact fun h => h (by assumption) | exact fun h => h rfl | exact fun h => h Iff.rfl) ?_
  rotate_left
  refine dv0 rfl ?_
  exact ⟨rfl, rfl⟩
def newY (n a : Int) : Yd := ⟨n, false, [a], [], [], 0⟩
theorem IsYard_cN (n a : Int) : C 57 [.agg [i64 n, .ff, .sl 1 [i64 a], .nilsl, .nilsl, i64 0]] [] (pr (good (newY n a))) [] false :=
  (IsYard_c (newY n a) ⟨by simp [newY], by simp [newY], by simp [newY]⟩).arg ⟨⟨⟨rfl, rfl⟩, Bool.false_ne_true, ⟨rfl, rfl⟩, rfl, rfl, ⟨rfl, rfl⟩, trivial⟩, trivial⟩
theorem l12Own_cN (n a : Int) : C 127 [.agg [i64 n, .ff, .sl 1 [i64 a], .nilsl, .nilsl, i64 0]] [] (.agg [i64 n, bv false, .loc 0, .loc 1, .loc 2, i64 0]) [row [a], rowS [], rowK []] false :=
  (l12Own_c (newY n a) ⟨by simp [newY], by simp [newY], by simp [newY]⟩).arg ⟨⟨⟨rfl, rfl⟩, Bool.false_ne_true, ⟨rfl, rfl⟩, rfl, rfl, ⟨rfl, rfl⟩, trivial⟩, trivial⟩
noncomputable def newW (n a : Int) : Yd := if good (newY n a) then newY n a else ⟨0, false, [], [], [], 0⟩
theorem newW_fit (n a : Int) : (newW n a).w.length ≤ 1 ∧ (newW n a).S = [] ∧ (newW n a).K = [] := by
  unfold newW; split <;> simp [newY]
theorem newW_yes {n a : Int} (h : good (newY n a)) : newW n a = newY n a := if_pos h
theorem newW_no {n a : Int} (h : ¬ good (newY n a)) : newW n a = ⟨0, false, [], [], [], 0⟩ := if_neg h
theorem l12Good_cM (n a : Int) : C 115 [yv (newY n a)] [] (pr (good (newY n a))) [] false := l12Good_c (newY n a) ⟨by simp [newY], by simp [newY], by simp [newY]⟩
theorem sNewYard_c (n a : Int) : C 52 [i64 n, i64 a] [] (.tuple [.agg [i64 (newW n a).n, bv (newW n a).b, .loc 0, .loc 1, .loc 2, i64 (newW n a).c], pr (good (newY n a))]) [row (newW n a).w, rowS (newW n a).S, rowK (newW n a).K] false := by
  refine mkC false false Try.func52 rfl ?_
  refine And.intro nofun ?_
  iterate 17 refine Z ?_
  refine callW.mk [] 2 _ _ _ (l12Own_cN _ _) rfl rfl trivial nofun ?_
  iterate 5 refine Z ?_
  refine callW.mk [] 6 _ _ _ ((l12Good_cM n a)) rfl rfl (by repeat' first | exact trivial | assumption | exact knownSS | exact knownApp knownSS knownNil | refine And.intro ?_ ?_) nofun ?_
  refine twoN (fun _ => ?_) (fun _ => ?_)
  iterate 5 refine Z ?_
  rotate_left
  iterate 4 refine Z ?_
  rotate_left
  · rename_i h
    rw [newW_no h]
    refine doneV.mk [1, 2, 3] [6, 7, 8] rfl rfl ?_ ?_ ?_
    repeat' first | exact trivial | exact rfl | exact Iff.rfl | assumption | exact pureI | refine And.intro ?_ ?_
    · exact Bool.false_ne_true
    · exact pureSen
    · exact pureCar
  · rename_i h
    rw [newW_yes h]
    refine doneV.mk [] [2, 3, 4] rfl rfl ?_ ?_ ?_
    repeat' first | exact trivial | exact rfl | exact Iff.rfl | assumption | exact pureI | refine And.intro ?_ ?_
    · exact pureSen
    · exact pureCar
theorem NewYard_c (n a : Int) : C 51 [i64 n, i64 a] [] (.tuple [.agg [i64 (newW n a).n, bv (newW n a).b, .loc 0, .loc 1, .loc 2, i64 (newW n a).c], pr (good (newY n a))]) [row (newW n a).w, rowS (newW n a).S, rowK (newW n a).K] false := by
  refine mkC false false Try.func51 rfl ?_
  refine And.intro nofun ?_
  iterate 22 refine Z ?_
  refine callW.mk [] 3 _ _ _ (IsYard_cN _ _) rfl rfl trivial nofun ?_
  refine twoN (fun _ => ?_) (fun _ => ?_)
  iterate 5 refine Z ?_
  rotate_left
  iterate 4 refine Z ?_
  rotate_left
  · rename_i h
    rw [newW_no h]
    refine doneV.mk [1, 2, 3] [3, 4, 5] rfl rfl ?_ ?_ ?_
    repeat' first | exact trivial | exact rfl | exact Iff.rfl | assumption | exact pureI | refine And.intro ?_ ?_
    · exact Bool.false_ne_true
    · exact pureSen
    · exact pureCar
  · rename_i h
    rw [newW_yes h]
    refine doneV.mk [2, 3] [1, 3, 4] rfl rfl ?_ ?_ ?_
    repeat' first | exact trivial | exact rfl | exact Iff.rfl | assumption | exact pureI | refine And.intro ?_ ?_
    · exact Bool.false_ne_true
    · exact pureSen
    · exact pureCar
theorem eqYard_cP (n : Int) (b : Bool) (w : List Int) (S : List (Int × Int)) (K : List (Int × Int × Int)) (c : Int) (n' : Int) (b' : Bool) (w' : List Int) (S' : List (Int × Int)) (K' : List (Int × Int × Int)) (c' : Int)
    (h1 : w.length ≤ 1099511627776) (h2 : S.length ≤ 1099511627776) (h3 : K.length ≤ 1099511627776) (h4 : w'.length ≤ 1099511627776) (h5 : S'.length ≤ 1099511627776) (h6 : K'.length ≤ 1099511627776) :
    C 27 [.agg [i64 n, bv b, ints w, sens S, cars K, i64 c], .agg [i64 n', bv b', ints w', sens S', cars K', i64 c']] [] (pr (Yd.mk n b w S K c = Yd.mk n' b' w' S' K' c')) [] false := eqYard_c ⟨n, b, w, S, K, c⟩ ⟨n', b', w', S', K', c'⟩ ⟨h1, h2, h3⟩ ⟨h4, h5, h6⟩
end Sx
