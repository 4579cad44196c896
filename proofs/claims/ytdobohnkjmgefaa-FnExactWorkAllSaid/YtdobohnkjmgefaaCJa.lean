/- Contracts: lists of jobs. -/
import Derived.Test.YtdobohnkjmgefaaCe
import Derived.Test.YtdobohnkjmgefaaMxT
set_option linter.all false
namespace Sx
open Go Go.Proofs
set_option maxRecDepth 100000
set_option maxHeartbeats 8000000
set_option linter.unusedSimpArgs false
set_option linter.unusedSectionVars false
variable [Glb]
theorem szJobS_c (L : List Jb) (hL : L.length ≤ 9223372036854775807) (l : Int) (hl : -1 ≤ l ∧ l ≤ 1048576) : C 38 [jobs L, i64 l] [] (i64 (if l < (L.length : Int) then -1 else l - L.length)) [] false := by
  refine mkC false false Try.func38 rfl ?_
  refine And.intro nofun ?_
  refine lm ?_
  refine nw (by omega) (by omega) ?_
  refine twoP.mk (fun _ => ?_) (fun _ => ?_)
  iterate 2 rotate_left
  · rw [if_pos (by omega)]
    refine doneV.mk [] [] rfl rfl ?_ ?_ ?_
    repeat' first | exact trivial | exact rfl | exact Iff.rfl | assumption | exact pureI | exact (show _ = _ by omega) | exact (show _ ≤ _ by omega) | exact (show _ < _ by omega) | exact (show ¬ _ by omega) | refine And.intro ?_ ?_
  · rw [if_neg (by omega)]
    refine doneV.mk [] [] rfl rfl ?_ ?_ ?_
    repeat' first | exact trivial | exact rfl | exact Iff.rfl | assumption | exact pureI | exact (show _ = _ by omega) | exact (show _ ≤ _ by omega) | exact (show _ < _ by omega) | exact (show ¬ _ by omega) | refine And.intro ?_ ?_
theorem toJobJ_c (j : Jb) : C 35 [jv j] [] (jv j) [] false := by
  refine mkC false false Try.func35 rfl ?_
  refine And.intro nofun ?_
  iterate 31 refine Z ?_
  rotate_left
  refine doneV.mk [] [] rfl rfl ?_ ?_ ?_
  repeat' first | exact trivial | exact rfl | exact Iff.rfl | assumption | exact pureI | exact (show _ = _ by omega) | exact (show _ ≤ _ by omega) | exact (show _ < _ by omega) | exact (show ¬ _ by omega) | refine And.intro ?_ ?_
theorem toJobS_c (l : List Jb) (hl : l.length ≤ 1099511627776) : C 40 [jobs l] [] (.loc 0) [rowJ l] false := by
  refine mkC false false Try.func40 rfl ?_
  refine And.intro nofun ?_
  refine lm ?_
  iterate 2 refine Z ?_
  refine jk (by omega) ?_
  refine ixb (by omega) (by omega) ?_
  iterate 2 refine Z ?_
  refine er ?_
  rotate_left
  refine loop_up (β := Nat) (fun k => [(4, i64 k)]) (fun k => [(0, rowJ (l.take k ++ (List.replicate l.length z4).drop k))]) [] (fun k => k ≤ l.length) (fun k => l.length - k) (0) ?_ ?_ ?_
  · omega
  · refine weak.mk [] [0] rfl rfl ?_ ?_
    repeat' first | exact trivial | exact rfl | exact Iff.rfl | assumption | refine And.intro ?_ ?_
    simp [jv, i64, ofVal, ofVal1, z4]
    exact .inr rfl
  · rintro k hk R hR
    have hm : (l.take k ++ (List.replicate l.length z4).drop k).length = l.length := by simp; omega
    refine lm ?_
    refine twoP.mk (fun _ => ?_) (fun _ => ?_)
    iterate 2 refine Z ?_
    refine jkm (by omega) ?_
    refine gm (by omega) ?_
    refine callW.mk [] 1 _ _ _ (toJobJ_c _) rfl rfl trivial nofun ?_
    iterate 2 refine Z ?_
    refine jkm (by omega) ?_
    iterate 2 refine Z ?_
    refine gm (by omega) ?_
    refine Z ?_
    refine esetJ ?_
    refine nw (by omega) (by omega) ?_
    iterate 2 rotate_left
    · rename_i h1
      refine hR (k + 1) _ _ ?_ (weak.mk [] [0] rfl rfl ?_ ?_)
      repeat' first | exact trivial | exact rfl | exact Iff.rfl | assumption | refine And.intro ?_ ?_
      · exact ⟨by omega, by omega⟩
      · exact map_congr (by rw [set_at (take_len hk) (by simp; omega), take_snoc (by omega)])
    · rename_i h1
      refine doneV.mk [] [0] rfl rfl ?_ ?_ ?_
      repeat' first | exact trivial | exact rfl | exact Iff.rfl | assumption | exact pureI | refine And.intro ?_ ?_
      · rw [take_all h1, List.drop_of_length_le (by simp; omega), List.append_nil]
      · exact pureJ
theorem eqJob_c (a b : Jb) : C 134 [jv a, jv b] [] (pr (a = b)) [] false := by
  refine mkC false false Try.func134 rfl ?_
  refine And.intro nofun ?_
  iterate 4 refine Z ?_
  refine twoN (fun _ => ?_) (fun _ => ?_)
  rotate_left
  iterate 2 refine Z ?_
  refine twoN (fun _ => ?_) (fun _ => ?_)
  rotate_left
  iterate 2 refine Z ?_
  refine twoN (fun _ => ?_) (fun _ => ?_)
  rotate_left
  iterate 2 refine Z ?_
  refine twoN (fun _ => ?_) (fun _ => ?_)
  iterate 2 rotate_left
  · rename_i h1
    refine dv0 rfl ?_
    exact fun h => h1 (by rw [h])
  · rename_i h1 h2
    refine dv0 rfl ?_
    exact fun h => h2 (by rw [h])
  · rename_i h1 h2 h3
    refine dv0 rfl ?_
    exact fun h => h3 (by rw [h])
  · rename_i h1 h2 h3 h4
    refine dv0 rfl ?_
    exact fun h => h4 (by rw [h])
  · rename_i h1 h2 h3 h4
    refine dv0 rfl ?_
    exact jb_ext h1 h2 h3 h4
theorem eqJobS_c (a b : List Jb) (hl : a.length ≤ 1099511627776) (hb : b.length ≤ 1099511627776) : C 42 [jobs a, jobs b] [] (pr (a = b)) [] false := by
  refine mkC false false Try.func42 rfl ?_
  refine And.intro nofun ?_
  iterate 2 refine lm ?_
  refine twoN (fun _ => ?_) (fun _ => ?_)
  iterate 2 rotate_left
  · rename_i h1
    refine dv0 rfl ?_
    exact fun h => h1 (by rw [h])
  · rename_i h1
    refine loop_up (β := Nat) (fun k => [(5, i64 k), (4, .unk)]) (fun k => []) [] (fun k => k ≤ a.length ∧ a.take k = b.take k) (fun k => a.length - k) (0) ?_ ?_ ?_
    · simp
    · refine weak.mk [] [] rfl rfl ?_ ?_
      repeat' first | exact trivial | exact rfl | exact Iff.rfl | assumption | refine And.intro ?_ ?_
    · rintro k ⟨hk, hi⟩ R hR
      by_cases hkl : k < a.length
      · refine lm ?_
        refine tY (by first | omega | assumption | exact rfl | exact Iff.rfl) ?_
        refine drawP.mk 10 (Z (Z (Z (Z ?_))))
        apply exP.mk
        exact rfl
        apply exP.mk
        exact rfl
        apply exP.mk
        iterate 2 refine Z ?_
        refine jkm (by omega) ?_
        exact rfl
        apply exP.mk
        refine gm (by omega) ?_
        exact rfl
        apply exP.mk
        exact rfl
        apply exP.mk
        exact rfl
        apply exP.mk
        iterate 2 refine Z ?_
        refine jkm (by omega) ?_
        exact rfl
        apply exP.mk
        refine gm (by omega) ?_
        exact rfl
        apply exP.mk
        refine callP.mk _ _ _ ((eqJob_c a[k] (b[k]'(by omega)))) (by repeat' first | exact trivial | assumption | exact knownSS | exact knownApp knownSS knownNil | refine And.intro ?_ ?_) nofun trivial ?_
        exact rfl
        apply exP.mk
        exact rfl
        refine twoN (fun _ => ?_) (fun _ => ?_)
        rotate_left
        refine nw (by omega) (by omega) ?_
        rotate_left
        · rename_i h3
          refine dv0 rfl ?_
          exact fun h => h3 (by subst h; rfl)
        · rename_i h3
          refine hR (k + 1) _ _ ?_ (weak.mk [] [] rfl rfl ?_ ?_)
          repeat' first | exact trivial | exact rfl | exact Iff.rfl | assumption | refine And.intro ?_ ?_
          exact ⟨⟨by omega, (eq_take (by omega) (by omega)).2 ⟨hi, h3⟩⟩, by omega⟩
      · refine lm ?_
        refine tN (by first | omega | assumption | exact fun h => h (by assumption) | exact fun h => h rfl | exact fun h => h Iff.rfl) ?_
        rotate_left
        rw [List.take_of_length_le (by omega), List.take_of_length_le (by omega)] at hi
        refine dv0 rfl ?_
        exact hi
theorem markJobS_c (l : List Jb) (hl : l.length ≤ 1099511627776) (k : Int) (h0 : 0 ≤ k) (hk : k ≤ 1099511627776000) : C 43 [.loc 0, i64 k] [rowJ l] (i64 (k + 4 * l.length)) [rowJ (marksJ k l.length)] false := by
  refine mkC false false Try.func43 rfl ?_
  refine And.intro nofun ?_
  rotate_left
  refine loop_up (β := Nat) (fun j => [(5, i64 j), (1, i64 (k + 4 * j))]) (fun j => [(0, rowJ (marksJ k j ++ l.drop j))]) [] (fun j => j ≤ l.length) (fun j => l.length - j) (0) ?_ ?_ ?_
  · omega
  · refine weak.mk [] [0] rfl rfl ?_ ?_
    repeat' first | exact trivial | exact rfl | exact Iff.rfl | assumption | refine And.intro ?_ ?_
    omega
  · rintro j hj R hR
    have hm : (marksJ k j ++ l.drop j).length = l.length := by simp; omega
    by_cases hjl : j < l.length
    · have hjm : j < (marksJ k j ++ l.drop j).length := by omega
      refine lm ?_
      refine tY (by first | omega | assumption | exact rfl | exact Iff.rfl) ?_
      iterate 2 refine Z ?_
      refine jkm (by omega) ?_
      iterate 3 refine Z ?_
      refine gm (by omega) ?_
      refine Z ?_
      refine esetJ ?_
      refine nw (by omega) (by omega) ?_
      iterate 2 refine Z ?_
      refine jkm (by simp; omega) ?_
      iterate 3 refine Z ?_
      refine (gsetJ hjm) ?_
      refine Z ?_
      refine esetJ2 ?_
      refine nw (by omega) (by omega) ?_
      iterate 2 refine Z ?_
      refine jkm (by simp; omega) ?_
      iterate 3 refine Z ?_
      refine (gsetJ hjm) ?_
      refine Z ?_
      refine esetJ2 ?_
      refine nw (by omega) (by omega) ?_
      iterate 2 refine Z ?_
      refine jkm (by simp; omega) ?_
      iterate 3 refine Z ?_
      refine (gsetJ hjm) ?_
      refine Z ?_
      refine esetJ2 ?_
      iterate 2 refine nw (by omega) (by omega) ?_
      rotate_left
      refine hR (j + 1) _ _ ?_ (weak.mk [] [0] rfl rfl ?_ ?_)
      repeat' first | exact trivial | exact rfl | exact Iff.rfl | assumption | refine And.intro ?_ ?_
      · exact ⟨by omega, by omega⟩
      · omega
      · refine map_congr ?_
        rw [set_at (marksJ_len k j) hjl, marksJ_succ, show k + 4 * (j : Int) + 1 + 1 + 1 = k + 4 * (j : Int) + 3 by omega, show k + 4 * (j : Int) + 1 + 1 = k + 4 * (j : Int) + 2 by omega]
    · refine lm ?_
      refine tN (by first | omega | assumption | exact fun h => h (by assumption) | exact fun h => h rfl | exact fun h => h Iff.rfl) ?_
      rotate_left
      have e : j = l.length := by omega
      subst e
      refine doneV.mk [] [0] rfl rfl ?_ ?_ ?_
      repeat' first | exact trivial | exact rfl | exact Iff.rfl | assumption | exact pureI | refine And.intro ?_ ?_
      · rw [List.drop_length, List.append_nil]
      · exact pureJ
end Sx
