/- Plain words: jobs that are taken back. -/
import Derived.Test.YtdobohnkjmgefaaMxT
set_option linter.all false
namespace Sx
theorem wkR_good {y : Yd} {j : Jb} (h : wkOk y j) : good (wkR y j) := by rw [wkR_yes h]; exact h.2.2
theorem wkR_c {y : Yd} {j : Jb} (h : wkOk y j) : (wkR y j).c = y.c + 1 := by rw [wkR_yes h]; rfl
theorem waY_good {y : Yd} {L : List Jb} (h : good y) : good (waY y L) := by
  rw [waY_yes h]
  exact yAt_good h fun x hx => runF_sat _ 0 x (Nat.zero_le _) hx
theorem good_c {y : Yd} {c : Int} (h : good y) (h0 : 0 ≤ c) (h1 : c ≤ 1000) : good { y with c := c } := ⟨h.1, h.2.1, h.2.2.1, h.2.2.2.1, h0, h1⟩
theorem back_step {y : Yd} {j : Jb} (h : wkOk y j) (hk : j.k = 1) (hc : (wkR y j).c ≠ 1000) :
    wkOk (wkR y j) ⟨2, 0, 0, 0⟩ ∧ wkR (wkR y j) ⟨2, 0, 0, 0⟩ = { y with c := y.c + 2 } := by
  have hg := wkR_good h
  have e : wkR y j = { y with w := y.w ++ [y.w.getD (y.w.length - 1) 0 + max (-1) (min 1 j.a)], c := y.c + 1 } := by
    rw [wkR_yes h]
    unfold nxt made
    rw [if_pos hk]
  have hc2 : y.c + 1 ≤ 1000 := by have := hg.2.2.2.2.2; rw [wkR_c h] at this; exact this
  rw [wkR_c h] at hc
  have hn : nxt (wkR y j) ⟨2, 0, 0, 0⟩ = { y with c := y.c + 2 } := by
    rw [e]
    unfold nxt made
    rw [if_neg (by decide), if_pos rfl]
    dsimp only
    rw [show List.take ((y.w ++ [y.w.getD (y.w.length - 1) 0 + max (-1) (min 1 j.a)]).length - 1) (y.w ++ [y.w.getD (y.w.length - 1) 0 + max (-1) (min 1 j.a)]) = y.w by
      rw [List.length_append, List.length_singleton, Nat.add_sub_cancel, List.take_left' rfl], Int.add_assoc]
    rfl
  have hy := h.1
  have hl : 1 ≤ (y.w.length : Int) := hy.2.1.1.1
  have hok : wkOk (wkR y j) ⟨2, 0, 0, 0⟩ := by
    refine ⟨hg, .inr (.inl ⟨rfl, ?_, rfl, rfl, rfl⟩), ?_⟩
    · rw [e]
      show 1 < ((y.w ++ [_]).length : Int)
      rw [List.length_append, List.length_singleton]
      omega
    · rw [hn]
      exact good_c hy (by have := hy.2.2.2.2.1; omega) (by omega)
  exact ⟨hok, by rw [wkR_yes hok, hn]⟩
theorem back_sensor {y : Yd} {j : Jb} (h : wkOk y j) (hk : j.k = 3) (hc : (wkR y j).c ≠ 1000) :
    wkOk (wkR y j) ⟨5, y.S.length, 0, 0⟩ ∧ wkR (wkR y j) ⟨5, y.S.length, 0, 0⟩ = { y with c := y.c + 2 } := by
  have hg := wkR_good h
  have e : wkR y j = { y with S := y.S ++ [(j.a, j.b)], c := y.c + 1 } := by
    rw [wkR_yes h]
    unfold nxt made
    rw [if_neg (by rw [hk]; decide), if_neg (by rw [hk]; decide), if_pos hk]
  have hc2 : y.c + 1 ≤ 1000 := by have := hg.2.2.2.2.2; rw [wkR_c h] at this; exact this
  rw [wkR_c h] at hc
  have hn : nxt (wkR y j) ⟨5, y.S.length, 0, 0⟩ = { y with c := y.c + 2 } := by
    rw [e]
    unfold nxt made
    rw [if_neg (show ¬ (5 : Int) = 1 by decide), if_neg (show ¬ (5 : Int) = 2 by decide), if_neg (show ¬ (5 : Int) = 3 by decide), if_neg (show ¬ (5 : Int) = 4 by decide), if_pos rfl]
    dsimp only
    rw [show (y.S ++ [(j.a, j.b)]).eraseIdx ((y.S.length : Int)).toNat = y.S by
      rw [Int.toNat_natCast, List.eraseIdx_append_of_length_le (Nat.le_refl _)]; simp, Int.add_assoc]
    rfl
  have hy := h.1
  have hok : wkOk (wkR y j) ⟨5, y.S.length, 0, 0⟩ := by
    refine ⟨hg, .inr (.inr (.inr (.inr (.inl ⟨rfl, ?_, rfl, rfl⟩)))), ?_⟩
    · rw [e]
      show 0 ≤ (y.S.length : Int) ∧ (y.S.length : Int) < ((y.S ++ [_]).length : Int)
      rw [List.length_append, List.length_singleton]
      omega
    · rw [hn]
      exact good_c hy (by have := hy.2.2.2.2.1; omega) (by omega)
  exact ⟨hok, by rw [wkR_yes hok, hn]⟩
end Sx
