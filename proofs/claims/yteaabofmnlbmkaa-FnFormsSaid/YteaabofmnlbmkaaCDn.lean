/- Contracts: bytes of a code are drawn. -/
import Derived.Test.YteaabofmnlbmkaaSyC
import Derived.Test.YteaabofmnlbmkaaCa
import Derived.Test.YteaabofmnlbmkaaMxA
set_option linter.all false
namespace Sx
open Go Go.Proofs
set_option maxRecDepth 100000
set_option maxHeartbeats 8000000
set_option linter.unusedSimpArgs false
set_option linter.unusedSectionVars false
variable [Glb]
theorem next_c (L : List UInt8) (hL : L.length ≤ 1099511627776) (a s : Int) (h0 : 0 ≤ a) (h1 : a ≤ 1099511627776) : CE 107 [.prow 0 0 0] [cur L a s] (fun e : Int × Int => 0 ≤ e.1 ∧ e.1 ≤ 255) (fun e => i64 e.1) (fun e => [cur L (a + 1) e.2]) true := by
  refine mkE false false Try.func107 rfl ?_; refine And.intro nofun ?_
  by_cases h : a < (L.length : Int)
  · have hb := i8_bd (L[a.toNat]'(by omega))
    refine drawP.mkS (Z (Z ?_)); refine Z ?_
    apply exP.mk
    exact rfl
    apply exP.mk
    exact rfl
    apply exP.mk
    refine Z ?_
    exact rfl
    apply exP.mk
    exact rfl
    apply exP.mk
    exact rfl
    apply exP.mk
    exact rfl
    apply exP.mk
    refine Z ?_
    exact rfl
    apply exP.mk
    exact rfl
    apply exP.mk
    refine lm ?_
    exact rfl
    apply exP.mk
    exact rfl
    refine tY (by first | omega | assumption | exact rfl | exact Iff.rfl) ?_; refine drawP.mkS (Z (Z ?_)); refine Z ?_
    apply exP.mk
    exact rfl
    apply exP.mk
    exact rfl
    apply exP.mk
    refine Z ?_
    exact rfl
    apply exP.mk
    exact rfl
    apply exP.mk
    exact rfl
    apply exP.mk
    exact rfl
    apply exP.mk
    refine Z ?_
    exact rfl
    apply exP.mk
    exact rfl
    apply exP.mk
    iterate 2 refine Z ?_
    refine jnm (by omega) (by omega) ?_
    exact rfl
    apply exP.mk
    refine gm (by omega) ?_
    exact rfl
    apply exP.mk
    refine nw (by omega) (by omega) ?_
    exact rfl
    apply exP.mk
    exact rfl
    refine Z ?_; refine nw (by omega) (by omega) ?_; iterate 6 refine Z ?_
    iterate 4 refine nr ?_
    iterate 5 refine Z ?_
    refine drawP.mkS (Z (Z ?_)); refine Z ?_
    apply exP.mk
    exact rfl
    apply exP.mk
    exact rfl
    apply exP.mk
    refine Z ?_
    exact rfl
    apply exP.mk
    exact rfl
    apply exP.mk
    exact rfl
    apply exP.mk
    exact rfl
    apply exP.mk
    refine Z ?_
    exact rfl
    apply exP.mk
    exact rfl
    apply exP.mk
    refine lm ?_
    exact rfl
    apply exP.mk
    exact rfl
    refine tY (by first | omega | assumption | exact rfl | exact Iff.rfl) ?_; rotate_left; refine doneE.mk (((L[a.toNat]'(by omega)).toNat, sdN s (L[a.toNat]'(by omega)).toNat)) ?_ ?_; rotate_left
    focus
      refine doneV.mk [] [0] rfl rfl ?_ ?_ ?_
      repeat' first | exact trivial | exact rfl | exact Iff.rfl | assumption | exact pureI | exact (show _ = _ by omega) | exact (show _ ≤ _ by omega) | exact (show _ < _ by omega) | exact (show ¬ _ by omega) | refine And.intro ?_ ?_
    rotate_right
    exact hb
  · refine drawP.mkS (Z (Z ?_))
    refine Z ?_
    apply exP.mk
    exact rfl
    apply exP.mk
    exact rfl
    apply exP.mk
    refine Z ?_
    exact rfl
    apply exP.mk
    exact rfl
    apply exP.mk
    exact rfl
    apply exP.mk
    exact rfl
    apply exP.mk
    refine Z ?_
    exact rfl
    apply exP.mk
    exact rfl
    apply exP.mk
    refine lm ?_
    exact rfl
    apply exP.mk
    exact rfl
    refine tN (by first | omega | assumption | exact fun h => h (by assumption) | exact fun h => h rfl | exact fun h => h Iff.rfl) ?_; refine Z ?_; refine nw (by omega) (by omega) ?_; iterate 6 refine Z ?_
    iterate 4 refine nr ?_
    iterate 5 refine Z ?_
    refine drawP.mkS (Z (Z ?_)); refine Z ?_
    apply exP.mk
    exact rfl
    apply exP.mk
    exact rfl
    apply exP.mk
    refine Z ?_
    exact rfl
    apply exP.mk
    exact rfl
    apply exP.mk
    exact rfl
    apply exP.mk
    exact rfl
    apply exP.mk
    refine Z ?_
    exact rfl
    apply exP.mk
    exact rfl
    apply exP.mk
    refine lm ?_
    exact rfl
    apply exP.mk
    exact rfl
    refine tN (by first | omega | assumption | exact fun h => h (by assumption) | exact fun h => h rfl | exact fun h => h Iff.rfl) ?_; refine Z ?_; refine And.intro (by omega) ?_; iterate 2 refine nr ?_
    rotate_left; refine num255 fun x hx0 hx1 => ?_
    rotate_left; refine doneE.mk ((x, sdN s 0)) ?_ ?_
    rotate_left
    focus
      refine doneV.mk [] [0] rfl rfl ?_ ?_ ?_
      repeat' first | exact trivial | exact rfl | exact Iff.rfl | assumption | exact pureI | exact (show _ = _ by omega) | exact (show _ ≤ _ by omega) | exact (show _ < _ by omega) | exact (show ¬ _ by omega) | refine And.intro ?_ ?_
    rotate_right
    exact ⟨hx0, hx1⟩
theorem pick_c (L : List UInt8) (hL : L.length ≤ 1099511627776) (a s : Int) (h0 : 0 ≤ a) (h1 : a ≤ 1099511627000) (n : Int) : CE 75 [.prow 0 0 0, i64 n] [cur L a s] (fun e : Int × Int × Int => (0 ≤ e.1 ∧ (e.1 < n ∨ e.1 = 0)) ∧ a ≤ e.2.1 ∧ e.2.1 ≤ a + 2) (fun e => i64 e.1) (fun e => [cur L e.2.1 e.2.2]) true := by
  refine mkE false false Try.func75 rfl ?_; refine And.intro nofun ?_; refine twoP.mk (fun _ => ?_) (fun _ => ?_); rotate_left; refine callW.mkE [] [0] 1 _ _ _ _ (next_c _ oka _ _ oka oka) rfl rfl okk (fun _ => ⟨rfl, rfl⟩) (fun _ _ => ?_); refine twoP.mk (fun _ => ?_) (fun _ => ?_); refine nw (by omega) (by omega) ?_; refine callW.mkE [] [0] 1 _ _ _ _ (next_c _ oka _ _ oka oka) rfl rfl okk (fun _ => ⟨rfl, rfl⟩) (fun _ _ => ?_); refine nw (by omega) (by omega) ?_; refine And.intro (by omega) ?_; refine ntm (by omega) ?_; rotate_left; refine And.intro (by omega) ?_; refine ntm (by omega) ?_; rotate_left
  · refine doneE.mk ((0, a, s)) ?_ ?_
    rotate_left
    focus
      refine doneV.mk [] [0] rfl rfl ?_ ?_ ?_
      repeat' first | exact trivial | exact rfl | exact Iff.rfl | assumption | exact pureI | exact (show _ = _ by omega) | exact (show _ ≤ _ by omega) | exact (show _ < _ by omega) | exact (show ¬ _ by omega) | refine And.intro ?_ ?_
    rotate_right
    dsimp only
    omega
  · rename_i h2 e h3 h4 e2 h5
    refine doneE.mk (((e.1 * 256 + e2.1) % n, a + 1 + 1, e2.2)) ?_ ?_; rotate_left
    focus
      refine doneV.mk [] [0] rfl rfl ?_ ?_ ?_
      repeat' first | exact trivial | exact rfl | exact Iff.rfl | assumption | exact pureI | exact (show _ = _ by omega) | exact (show _ ≤ _ by omega) | exact (show _ < _ by omega) | exact (show ¬ _ by omega) | refine And.intro ?_ ?_
    rotate_right
    have := Int.emod_lt_of_pos (e.1 * 256 + e2.1) (b := n) (by omega)
    have := Int.emod_nonneg (e.1 * 256 + e2.1) (b := n) (by omega)
    dsimp only
    omega
  · rename_i h2 e h3 h4
    refine doneE.mk ((e.1 % n, a + 1, e.2)) ?_ ?_; rotate_left
    focus
      refine doneV.mk [] [0] rfl rfl ?_ ?_ ?_
      repeat' first | exact trivial | exact rfl | exact Iff.rfl | assumption | exact pureI | exact (show _ = _ by omega) | exact (show _ ≤ _ by omega) | exact (show _ < _ by omega) | exact (show ¬ _ by omega) | refine And.intro ?_ ?_
    rotate_right
    have := Int.emod_lt_of_pos e.1 (b := n) (by omega)
    have := Int.emod_nonneg e.1 (b := n) (by omega)
    dsimp only
    omega
theorem one_c (L : List UInt8) (hL : L.length ≤ 1099511627776) (a s : Int) (h0 : 0 ≤ a) (h1 : a ≤ 1099511627000) (n : Int) : CE 77 [.prow 0 0 0, i64 n] [cur L a s] (fun e : Bool × Int × Int => a ≤ e.2.1 ∧ e.2.1 ≤ a + 2) (fun e => bv e.1) (fun e => [cur L e.2.1 e.2.2]) true := by
  refine mkE false false Try.func77 rfl ?_; refine And.intro nofun ?_; refine callW.mkE [] [0] 1 _ _ _ _ (pick_c _ oka _ _ oka oka _) rfl rfl okk (fun _ => ⟨rfl, rfl⟩) (fun _ _ => ?_); rotate_left
  rename_i e h2
  refine doneE.mk ((decide (e.1 = 0), e.2.1, e.2.2)) ?_ ?_; rotate_left
  focus
    refine doneV.mk [] [0] rfl rfl ?_ ?_ ?_
    repeat' first | exact trivial | exact rfl | exact Iff.rfl | assumption | exact pureI | exact (show _ = _ by omega) | exact (show _ ≤ _ by omega) | exact (show _ < _ by omega) | exact (show ¬ _ by omega) | refine And.intro ?_ ?_
  rotate_right
  · dsimp only; omega
  · show e.1 = 0 ↔ decide (e.1 = 0) = true
    simp
theorem among_r (L : List UInt8) (hL : L.length ≤ 1099511627776) (a s : Int) (h0 : 0 ≤ a) (h1 : a ≤ 1099511627000) (l : List Int) (hl : 0 < l.length ∧ l.length ≤ 1099511627776) : CE 83 [.prow 0 0 0, .loc 1] [cur L a s, row l] (fun e : Int × Int × Int => e.1 ∈ l ∧ a ≤ e.2.1 ∧ e.2.1 ≤ a + 2) (fun e => i64 e.1) (fun e => [cur L e.2.1 e.2.2, row l]) true := by
  refine mkE false false Try.func83 rfl ?_; refine And.intro nofun ?_; refine lm ?_; refine callW.mkE [] [0] 2 _ _ _ _ (pick_c _ oka _ _ oka oka _) rfl rfl okk (fun _ => ⟨rfl, rfl⟩) (fun _ _ => ?_); iterate 2 refine Z ?_
  refine jnm (by omega) (by omega) ?_; refine gm (by omega) ?_; rotate_left
  rename_i e h2
  refine doneE.mk ((l[e.1.toNat]'(by omega), e.2.1, e.2.2)) ?_ ?_; rotate_left
  focus
    refine doneV.mk [] [0, 1] rfl rfl ?_ ?_ ?_
    repeat' first | exact trivial | exact rfl | exact Iff.rfl | assumption | exact pureI | exact (show _ = _ by omega) | exact (show _ ≤ _ by omega) | exact (show _ < _ by omega) | exact (show ¬ _ by omega) | refine And.intro ?_ ?_
  rotate_right
  exact ⟨List.getElem_mem _, h2.2⟩
theorem among_c (L : List UInt8) (hL : L.length ≤ 1099511627776) (a s : Int) (h0 : 0 ≤ a) (h1 : a ≤ 1099511627000) (es : List AV) (he : allI es) (hl : 0 < es.length ∧ es.length ≤ 100) : CE 83 [.prow 0 0 0, .loc 1] [cur L a s, .row .plain 1 es] (fun e : Int × Int × Int => i64 e.1 ∈ es ∧ a ≤ e.2.1 ∧ e.2.1 ≤ a + 2) (fun e => i64 e.1) (fun e => [cur L e.2.1 e.2.2, .row .plain 1 es]) true := by
  obtain ⟨l, rfl⟩ := allI_map he
  rw [List.length_map] at hl
  have h := among_r L hL a s h0 h1 l ⟨hl.1, by omega⟩
  exact ⟨fun w O L' Z vs g1 g2 g3 g4 => (h.h w O L' Z vs g1 g2 g3 g4).mono fun v w' ⟨r, m, E', ⟨e, he, hr, hm⟩, hp⟩ => ⟨r, m, E', ⟨e, ⟨List.mem_map.2 ⟨_, he.1, rfl⟩, he.2⟩, hr, hm⟩, hp⟩⟩
end Sx
