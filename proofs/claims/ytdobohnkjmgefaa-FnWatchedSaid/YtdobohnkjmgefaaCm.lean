/- Contracts: new consoles. -/
import Derived.Test.YtdobohnkjmgefaaCf
import Derived.Test.YtdobohnkjmgefaaMxK
set_option linter.all false
namespace Sx
open Go Go.Proofs
set_option maxRecDepth 100000
set_option maxHeartbeats 4000000
set_option linter.unusedSimpArgs false
set_option linter.unusedSectionVars false
variable [Glb]
theorem copied_c (l : List Int) (hl : l.length ≤ 1099511627776) : C 168 [ints l] [] (.loc 0) [row l] false := by
  refine mkC false false Try.func168 rfl ?_
  refine And.intro nofun ?_
  iterate 6 refine Z ?_
  refine lem0 (by omega) ?_
  rotate_left
  refine doneV.mk [] [0] rfl rfl ?_ ?_ ?_
  repeat' first | exact trivial | exact rfl | exact Iff.rfl | assumption | exact pureI | exact (show _ = _ by omega) | exact (show _ ≤ _ by omega) | exact (show _ < _ by omega) | exact (show ¬ _ by omega) | refine And.intro ?_ ?_
theorem CloneS_c (l : List (Int × Int)) (hl : l.length ≤ 1099511627776) : C 219 [sens l] [] (.loc 0) [rowS l] false := by
  refine mkC false false Try.func219 rfl ?_
  refine And.intro nofun ?_
  refine anyP.mk (fun _ _ _ => ?_)
  refine twoP.mk (fun _ => ?_) (fun _ => ?_)
  rotate_left
  iterate 6 refine Z ?_
  refine lem0 (by omega) ?_
  rotate_left
  · rename_i h1 h2 h3 h4
    have e : l = [] := List.map_eq_nil_iff.1 (h3 h4)
    subst e
    refine doneV.mk [2] [0] rfl rfl ?_ ?_ ?_
    repeat' first | exact trivial | exact rfl | exact Iff.rfl | assumption | exact pureI | exact (show _ = _ by omega) | exact (show _ ≤ _ by omega) | exact (show _ < _ by omega) | exact (show ¬ _ by omega) | refine And.intro ?_ ?_
    exact pureSen
  · refine doneV.mk [] [0] rfl rfl ?_ ?_ ?_
    repeat' first | exact trivial | exact rfl | exact Iff.rfl | assumption | exact pureI | exact (show _ = _ by omega) | exact (show _ ≤ _ by omega) | exact (show _ < _ by omega) | exact (show ¬ _ by omega) | refine And.intro ?_ ?_
    exact pureSen
theorem CloneK_c (l : List (Int × Int × Int)) (hl : l.length ≤ 1099511627776) : C 220 [cars l] [] (.loc 0) [rowK l] false := by
  refine mkC false false Try.func220 rfl ?_
  refine And.intro nofun ?_
  refine anyP.mk (fun _ _ _ => ?_)
  refine twoP.mk (fun _ => ?_) (fun _ => ?_)
  rotate_left
  iterate 6 refine Z ?_
  refine lem0 (by omega) ?_
  rotate_left
  · rename_i h1 h2 h3 h4
    have e : l = [] := List.map_eq_nil_iff.1 (h3 h4)
    subst e
    refine doneV.mk [3] [0] rfl rfl ?_ ?_ ?_
    repeat' first | exact trivial | exact rfl | exact Iff.rfl | assumption | exact pureI | exact (show _ = _ by omega) | exact (show _ ≤ _ by omega) | exact (show _ < _ by omega) | exact (show ¬ _ by omega) | refine And.intro ?_ ?_
    exact pureCar
  · refine doneV.mk [] [0] rfl rfl ?_ ?_ ?_
    repeat' first | exact trivial | exact rfl | exact Iff.rfl | assumption | exact pureI | exact (show _ = _ by omega) | exact (show _ ≤ _ by omega) | exact (show _ < _ by omega) | exact (show ¬ _ by omega) | refine And.intro ?_ ?_
    exact pureCar
theorem own_c (y : Yd) (hy : fitY 1099511627776 y) : C 128 [yv y] [] (.agg [i64 y.n, bv y.b, .loc 0, .loc 1, .loc 2, i64 y.c]) [row y.w, rowS y.S, rowK y.K] false := by
  have h1 := hy.1
  have h2 := hy.2.1
  have h3 := hy.2.2
  refine mkC false false Try.func128 rfl ?_
  refine And.intro nofun ?_
  iterate 2 refine Z ?_
  refine drawP.mkS (Z (Z ?_))
  refine Z ?_
  apply exP.mk
  refine Z ?_
  exact rfl
  apply exP.mk
  exact rfl
  apply exP.mk
  refine Z ?_
  exact rfl
  apply exP.mk
  exact rfl
  apply exP.mk
  refine Z ?_
  exact rfl
  apply exP.mk
  exact rfl
  refine callW.mk [] 2 _ _ _ (copied_c _ (by first | omega | assumption | (simp; omega) | (simp; done))) rfl rfl trivial nofun ?_
  refine Z ?_
  refine And.intro ?_ ?_
  refine Z ?_
  exact rfl
  refine Z ?_
  refine And.intro ?_ ?_
  refine Z ?_
  exact rfl
  refine Z ?_
  apply exP.mk
  refine Z ?_
  exact rfl
  refine callW.mk [] 3 _ _ _ (CloneS_c _ (by first | omega | assumption | (simp; omega) | (simp; done))) rfl rfl trivial nofun ?_
  refine Z ?_
  refine And.intro ?_ ?_
  refine Z ?_
  exact rfl
  refine Z ?_
  refine And.intro ?_ ?_
  refine Z ?_
  exact rfl
  refine callW.mk [] 4 _ _ _ (CloneK_c _ (by first | omega | assumption | (simp; omega) | (simp; done))) rfl rfl trivial nofun ?_
  refine Z ?_
  refine And.intro ?_ ?_
  refine Z ?_
  exact rfl
  iterate 5 refine Z ?_
  apply exP.mk
  refine Z ?_
  exact rfl
  iterate 5 refine Z ?_
  apply exP.mk
  refine Z ?_
  exact rfl
  iterate 9 refine Z ?_
  rotate_left
  refine doneV.mk [] [2, 3, 4] rfl rfl ?_ ?_ ?_
  repeat' first | exact trivial | exact rfl | exact Iff.rfl | assumption | exact pureI | exact (show _ = _ by omega) | exact (show _ ≤ _ by omega) | exact (show _ < _ by omega) | exact (show ¬ _ by omega) | refine And.intro ?_ ?_
  · exact pureSen
  · exact pureCar
theorem NewConsole_c (y : Yd) (hy : fitY 1099511627776 y) : C 30 [yv y] [] (.tuple [.agg [i64 (yNorm y).n, bv (yNorm y).b, .loc 0, .loc 1, .loc 2, i64 (yNorm y).c, .str [], .str [], i64 0], pr (good y)]) [row (yNorm y).w, rowS (yNorm y).S, rowK (yNorm y).K] false := by
  refine mkC false false Try.func30 rfl ?_
  refine And.intro nofun ?_
  by_cases hg : good y
  · rw [yNorm_yes hg]
    iterate 2 refine Z ?_
    refine callW.mk [] 2 _ _ _ (IsYard_c _ (by first | omega | assumption | (simp; omega) | (simp; done))) rfl rfl trivial nofun ?_
    refine tN (by first | omega | assumption | exact fun h => h (by assumption) | exact fun h => h rfl | exact fun h => h Iff.rfl) ?_
    refine callW.mk [] 2 _ _ _ (own_c _ (by first | omega | assumption | (simp; omega) | (simp; done))) rfl rfl trivial nofun ?_
    iterate 8 refine Z ?_
    rotate_left
    refine doneV.mk [] [2, 3, 4] rfl rfl ?_ ?_ ?_
    repeat' first | exact trivial | exact rfl | exact Iff.rfl | assumption | exact pureI | exact (show _ = _ by omega) | exact (show _ ≤ _ by omega) | exact (show _ < _ by omega) | exact (show ¬ _ by omega) | refine And.intro ?_ ?_
    · exact pureSen
    · exact pureCar
  · iterate 2 refine Z ?_
    refine callW.mk [] 2 _ _ _ (IsYard_c _ (by first | omega | assumption | (simp; omega) | (simp; done))) rfl rfl trivial nofun ?_
    refine tY (by first | omega | assumption | exact rfl | exact Iff.rfl) ?_
    iterate 5 refine Z ?_
    rotate_left
    rw [yNorm_no hg]
    refine doneV.mk [1, 2, 3] [2, 3, 4] rfl rfl ?_ ?_ ?_
    repeat' first | exact trivial | exact rfl | exact Iff.rfl | assumption | exact pureI | exact (show _ = _ by omega) | exact (show _ ≤ _ by omega) | exact (show _ < _ by omega) | exact (show ¬ _ by omega) | refine And.intro ?_ ?_
    · exact Bool.false_ne_true
    · exact pureSen
    · exact pureCar
theorem sNewConsole_c (y : Yd) (hy : fitY 1099511627776 y) : C 29 [yv y] [] (.tuple [.agg [i64 (yNorm y).n, bv (yNorm y).b, .loc 0, .loc 1, .loc 2, i64 (yNorm y).c, .str [], .str [], i64 0], pr (good y)]) [row (yNorm y).w, rowS (yNorm y).S, rowK (yNorm y).K] false := by
  refine mkC false false Try.func29 rfl ?_
  refine And.intro nofun ?_
  by_cases hg : good y
  · rw [yNorm_yes hg]
    iterate 2 refine Z ?_
    refine callW.mk [] 2 _ _ _ (l12Good_c _ (by first | omega | assumption | (simp; omega) | (simp; done))) rfl rfl trivial nofun ?_
    refine tN (by first | omega | assumption | exact fun h => h (by assumption) | exact fun h => h rfl | exact fun h => h Iff.rfl) ?_
    refine callW.mk [] 2 _ _ _ (l12Own_c _ (by first | omega | assumption | (simp; omega) | (simp; done))) rfl rfl trivial nofun ?_
    iterate 8 refine Z ?_
    rotate_left
    refine doneV.mk [] [2, 3, 4] rfl rfl ?_ ?_ ?_
    repeat' first | exact trivial | exact rfl | exact Iff.rfl | assumption | exact pureI | exact (show _ = _ by omega) | exact (show _ ≤ _ by omega) | exact (show _ < _ by omega) | exact (show ¬ _ by omega) | refine And.intro ?_ ?_
    · exact pureSen
    · exact pureCar
  · iterate 2 refine Z ?_
    refine callW.mk [] 2 _ _ _ (l12Good_c _ (by first | omega | assumption | (simp; omega) | (simp; done))) rfl rfl trivial nofun ?_
    refine tY (by first | omega | assumption | exact rfl | exact Iff.rfl) ?_
    iterate 5 refine Z ?_
    rotate_left
    rw [yNorm_no hg]
    refine doneV.mk [1, 2, 3] [2, 3, 4] rfl rfl ?_ ?_ ?_
    repeat' first | exact trivial | exact rfl | exact Iff.rfl | assumption | exact pureI | exact (show _ = _ by omega) | exact (show _ ≤ _ by omega) | exact (show _ < _ by omega) | exact (show ¬ _ by omega) | refine And.intro ?_ ?_
    · exact Bool.false_ne_true
    · exact pureSen
    · exact pureCar
theorem eqLog_c (a b : List UInt8) (n : Int) (c d : List UInt8) (m : Int) : C 129 [.agg [.str a, .str b, i64 n], .agg [.str c, .str d, i64 m]] [] (pr (a = c ∧ b = d ∧ n = m)) [] false := by
  refine mkC false false Try.func129 rfl ?_
  refine And.intro nofun ?_
  iterate 4 refine Z ?_
  refine twoN (fun _ => ?_) (fun _ => ?_)
  rotate_left
  iterate 2 refine Z ?_
  refine twoN (fun _ => ?_) (fun _ => ?_)
  rotate_left
  iterate 2 refine Z ?_
  refine twoN (fun _ => ?_) (fun _ => ?_)
  iterate 2 rotate_left
  · rename_i h1
    refine dv0 rfl ?_
    exact (show ¬ _ from fun h => h1 h.1)
  · rename_i h1 h2
    refine dv0 rfl ?_
    exact (show ¬ _ from fun h => h2 h.2.1)
  · rename_i h1 h2 h3
    refine dv0 rfl ?_
    exact (show ¬ _ from fun h => h3 h.2.2)
  · rename_i h1 h2 h3
    refine dv0 rfl ?_
    exact ⟨h1, h2, h3⟩
theorem eqConsole_c (y z : Yd) (hy : fitY 1099511627776 y) (hz : fitY 1099511627776 z) (a b : List UInt8) (n : Int) (c d : List UInt8) (m : Int) : C 31 [.agg [i64 y.n, bv y.b, ints y.w, sens y.S, cars y.K, i64 y.c, .str a, .str b, i64 n], .agg [i64 z.n, bv z.b, ints z.w, sens z.S, cars z.K, i64 z.c, .str c, .str d, i64 m]] [] (pr (y = z ∧ a = c ∧ b = d ∧ n = m)) [] false := by
  refine mkC false false Try.func31 rfl ?_
  refine And.intro nofun ?_
  iterate 3 refine Z ?_
  refine And.intro (Nat.le_of_ble_eq_true rfl) ?_
  refine Z ?_
  refine And.intro (Nat.le_of_ble_eq_true rfl) ?_
  refine callW.mk [] 2 _ _ _ (eqYard_cP _ _ _ _ _ _ _ _ _ _ _ _ (by first | omega | assumption | (simp; omega) | (simp; done)) (by first | omega | assumption | (simp; omega) | (simp; done)) (by first | omega | assumption | (simp; omega) | (simp; done)) (by first | omega | assumption | (simp; omega) | (simp; done)) (by first | omega | assumption | (simp; omega) | (simp; done)) (by first | omega | assumption | (simp; omega) | (simp; done))) rfl rfl trivial nofun ?_
  refine twoN (fun _ => ?_) (fun _ => ?_)
  rotate_left
  refine Z ?_
  refine And.intro (Nat.le_of_ble_eq_true rfl) ?_
  refine Z ?_
  refine And.intro (Nat.le_of_ble_eq_true rfl) ?_
  refine callW.mk [] 2 _ _ _ (eqLog_c _ _ _ _ _ _) rfl rfl trivial nofun ?_
  refine twoN (fun _ => ?_) (fun _ => ?_)
  iterate 2 rotate_left
  · rename_i h1
    refine dv0 rfl ?_
    exact (show ¬ _ from fun h => h1 h.1)
  · rename_i h1 h2
    refine dv0 rfl ?_
    exact (show ¬ _ from fun h => h2 h.2)
  · rename_i h1 h2
    refine dv0 rfl ?_
    exact ⟨h1, h2⟩
theorem markConsole_c (n : Int) (b : Bool) (c : Int) (w : List Int) (S : List (Int × Int)) (K : List (Int × Int × Int)) (s1 s2 : List UInt8) (m : Int) (h1 : w.length ≤ 1099511627776) (h2 : S.length ≤ 1099511627776) (h3 : K.length ≤ 1099511627776) :
    C 32 [.agg [i64 n, bv b, .loc 0, .loc 1, .loc 2, i64 c, .str s1, .str s2, i64 m], i64 1] [row w, rowS S, rowK K] (i64 (1 + w.length + 2 * S.length + 3 * K.length)) [row (marks 1 w.length), rowS (marksS (1 + w.length) S.length), rowK (marksK (1 + w.length + 2 * S.length) K.length)] false := by
  refine mkC false false Try.func32 rfl ?_
  refine And.intro nofun ?_
  iterate 2 refine Z ?_
  refine And.intro (Nat.le_of_ble_eq_true rfl) ?_
  refine callW.mk [0, 1, 2] 4 _ _ _ (markYard_c _ _ _ _ _ _ (by first | omega | assumption | (simp; omega) | (simp; done)) (by first | omega | assumption | (simp; omega) | (simp; done)) (by first | omega | assumption | (simp; omega) | (simp; done))) rfl rfl trivial nofun ?_
  rotate_left
  refine doneV.mk [] [0, 1, 2] rfl rfl ?_ ?_ ?_
  repeat' first | exact trivial | exact rfl | exact Iff.rfl | assumption | exact pureI | exact (show _ = _ by omega) | exact (show _ ≤ _ by omega) | exact (show _ < _ by omega) | exact (show ¬ _ by omega) | refine And.intro ?_ ?_
  · exact pureSen
  · exact pureCar
theorem heldConsole_c (n : Int) (b : Bool) (c : Int) (a s k : Nat) (s1 s2 : List UInt8) (m : Int) (h1 : a ≤ 1099511627776) (h2 : s ≤ 1099511627776) (h3 : k ≤ 1099511627776) :
    C 33 [.agg [i64 n, bv b, ints (marks 1 a), sens (marksS (1 + a) s), cars (marksK (1 + a + 2 * s) k), i64 c, .str s1, .str s2, i64 m], i64 1] [] (i64 (1 + a + 2 * s + 3 * k)) [] false := by
  refine mkC false false Try.func33 rfl ?_
  refine And.intro nofun ?_
  iterate 2 refine Z ?_
  refine And.intro (Nat.le_of_ble_eq_true rfl) ?_
  refine callW.mk [] 1 _ _ _ (heldYard_c _ _ _ _ _ _ (by first | omega | assumption | (simp; omega) | (simp; done)) (by first | omega | assumption | (simp; omega) | (simp; done)) (by first | omega | assumption | (simp; omega) | (simp; done))) rfl rfl trivial nofun ?_
  refine tN (by first | omega | assumption | exact fun h => h (by assumption) | exact fun h => h rfl | exact fun h => h Iff.rfl) ?_
  rotate_left
  refine doneV.mk [] [] rfl rfl ?_ ?_ ?_
  repeat' first | exact trivial | exact rfl | exact Iff.rfl | assumption | exact pureI | exact (show _ = _ by omega) | exact (show _ ≤ _ by omega) | exact (show _ < _ by omega) | exact (show ¬ _ by omega) | refine And.intro ?_ ?_
theorem FnExactNewConsole_c (y : Yd) (hy : fitY 9223372036854775807 y) : C 5 [yv y] [] .tt [] false := by
  refine mkC false false Try.func5 rfl ?_
  refine And.intro nofun ?_
  by_cases hs : szY y 1048576 < 0
  · refine Z ?_
    refine callW.mk [] 1 _ _ _ (szYard_c _ (by first | omega | assumption | (simp; omega) | (simp; done))) rfl rfl trivial nofun ?_
    refine tY (by first | omega | assumption | exact rfl | exact Iff.rfl) ?_
    rotate_left
    all_goals exact dv0 rfl trivial
  · have hf := szY_ok hs
    have h1 := hf.1
    have h2 := hf.2.1
    have h3 := hf.2.2
    have hf2 : fitY 1099511627776 y := ⟨by omega, by omega, by omega⟩
    have hf3 := yNorm_fit hf2
    have h4 := hf3.1
    have h5 := hf3.2.1
    have h6 := hf3.2.2
    refine Z ?_
    refine callW.mk [] 1 _ _ _ (szYard_c _ (by first | omega | assumption | (simp; omega) | (simp; done))) rfl rfl trivial nofun ?_
    refine tN (by first | omega | assumption | exact fun h => h (by assumption) | exact fun h => h rfl | exact fun h => h Iff.rfl) ?_
    refine callW.mk [] 1 _ _ _ (toYard_c _ (by first | omega | assumption | (simp; omega) | (simp; done))) rfl rfl trivial nofun ?_
    refine callW.mk [] 4 _ _ _ (sNewConsole_c _ (by first | omega | assumption | (simp; omega) | (simp; done))) rfl rfl trivial nofun ?_
    iterate 5 refine Z ?_
    refine callW.mk [] 8 _ _ _ (toYard_c _ (by first | omega | assumption | (simp; omega) | (simp; done))) rfl rfl trivial nofun ?_
    iterate 5 refine Z ?_
    refine callW.mk [] 12 _ _ _ (NewConsole_c _ (by first | omega | assumption | (simp; omega) | (simp; done))) rfl rfl trivial nofun ?_
    iterate 5 refine Z ?_
    refine callW.mk [] 16 _ _ _ (eqConsole_c _ _ (by first | omega | assumption | (simp; omega) | (simp; done)) (by first | omega | assumption | (simp; omega) | (simp; done)) _ _ _ _ _ _) rfl rfl trivial nofun ?_
    refine twoN (fun _ => ?_) (fun _ => ?_)
    rotate_left
    refine tN (by first | omega | assumption | exact fun h => h (by assumption) | exact fun h => h rfl | exact fun h => h Iff.rfl) ?_
    refine drawP.mk 5 (Z (Z (Z (Z ?_))))
    apply exP.mk
    exact rfl
    apply exP.mk
    exact rfl
    apply exP.mk
    refine callP.mk _ _ _ (toYard_c _ (by first | omega | assumption | (simp; omega) | (simp; done))) trivial nofun trivial ?_
    exact rfl
    apply exP.mk
    refine callP.mk _ _ _ (eqYard_cP _ _ _ _ _ _ _ _ _ _ _ _ (by first | omega | assumption | (simp; omega) | (simp; done)) (by first | omega | assumption | (simp; omega) | (simp; done)) (by first | omega | assumption | (simp; omega) | (simp; done)) (by first | omega | assumption | (simp; omega) | (simp; done)) (by first | omega | assumption | (simp; omega) | (simp; done)) (by first | omega | assumption | (simp; omega) | (simp; done))) trivial nofun trivial ?_
    exact rfl
    apply exP.mk
    exact rfl
    refine tN (by first | omega | assumption | exact fun h => h (by assumption) | exact fun h => h rfl | exact fun h => h Iff.rfl) ?_
    refine callW.mk [8, 9, 10] 16 _ _ _ (markYard_c _ _ _ _ _ _ (by first | omega | assumption | (simp; omega) | (simp; done)) (by first | omega | assumption | (simp; omega) | (simp; done)) (by first | omega | assumption | (simp; omega) | (simp; done))) rfl rfl trivial nofun ?_
    refine tN (by first | omega | assumption | exact fun h => h (by assumption) | exact fun h => h rfl | exact fun h => h Iff.rfl) ?_
    refine callW.mk [] 16 _ _ _ (eqConsole_c _ _ (by first | omega | assumption | (simp; omega) | (simp; done)) (by first | omega | assumption | (simp; omega) | (simp; done)) _ _ _ _ _ _) rfl rfl trivial nofun ?_
    iterate 2 refine tN (by first | omega | assumption | exact fun h => h (by assumption) | exact fun h => h rfl | exact fun h => h Iff.rfl) ?_
    refine callW.mk [12, 13, 14] 16 _ _ _ (markConsole_c _ _ _ _ _ _ _ _ _ (by first | omega | assumption | (simp; omega) | (simp; done)) (by first | omega | assumption | (simp; omega) | (simp; done)) (by first | omega | assumption | (simp; omega) | (simp; done))) rfl rfl trivial nofun ?_
    refine callW.mk [] 16 _ _ _ (heldConsole_c _ _ _ _ _ _ _ _ _ (by first | omega | assumption | (simp; omega) | (simp; done)) (by first | omega | assumption | (simp; omega) | (simp; done)) (by first | omega | assumption | (simp; omega) | (simp; done))) rfl rfl trivial nofun ?_
    iterate 2 refine tN (by first | omega | assumption | exact fun h => h (by assumption) | exact fun h => h rfl | exact fun h => h Iff.rfl) ?_
    refine callW.mk [] 16 _ _ _ (toYard_c _ (by first | omega | assumption | (simp; omega) | (simp; done))) rfl rfl trivial nofun ?_
    refine callW.mk [] 19 _ _ _ (NewConsole_c _ (by first | omega | assumption | (simp; omega) | (simp; done))) rfl rfl trivial nofun ?_
    iterate 5 refine Z ?_
    refine callW.mk [] 23 _ _ _ (eqConsole_c _ _ (by first | omega | assumption | (simp; omega) | (simp; done)) (by first | omega | assumption | (simp; omega) | (simp; done)) _ _ _ _ _ _) rfl rfl trivial nofun ?_
    iterate 2 refine tN (by first | omega | assumption | exact fun h => h (by assumption) | exact fun h => h rfl | exact fun h => h Iff.rfl) ?_
    refine callW.mk [] 23 _ _ _ (heldConsole_c _ _ _ _ _ _ _ _ _ (by first | omega | assumption | (simp; omega) | (simp; done)) (by first | omega | assumption | (simp; omega) | (simp; done)) (by first | omega | assumption | (simp; omega) | (simp; done))) rfl rfl trivial nofun ?_
    iterate 2 refine tN (by first | omega | assumption | exact fun h => h (by assumption) | exact fun h => h rfl | exact fun h => h Iff.rfl) ?_
    rotate_left
    · rename_i h
      exact (h ⟨rfl, rfl, rfl, rfl⟩).elim
    · refine doneV.mk [] [] rfl rfl ?_ ?_ ?_
      repeat' first | exact trivial | exact rfl | exact Iff.rfl | assumption | exact pureI | exact (show _ = _ by omega) | exact (show _ ≤ _ by omega) | exact (show _ < _ by omega) | exact (show ¬ _ by omega) | refine And.intro ?_ ?_
end Sx
