/- Contracts: bytes of texts. -/
import Derived.Test.YtfhklahhkjahiaaDoorCa
import Derived.Test.YtfhklahhkjahiaaDoorMxM
set_option linter.all false
namespace Sx
open Go Go.Proofs
set_option maxRecDepth 100000
set_option maxHeartbeats 4000000
set_option linter.unusedSimpArgs false
set_option linter.unusedSectionVars false
variable [Glb]
theorem l12Bytes_c (s : List UInt8) (hs : s.length ≤ 1099511627776) (m : Int) : C 66 [.str s, i64 m] [] (pr (clean s 35 ∧ (s.length : Int) ≤ m)) [] false := by
  refine mkC false false Tryd.func66 rfl ?_
  refine And.intro nofun ?_
  rotate_left
  refine loop_up (β := Nat) (fun k => [(5, i64 k), (4, .unk)]) (fun k => []) [] (fun k => k ≤ s.length ∧ clean (s.take k) 35) (fun k => s.length - k) (0) ?_ ?_ ?_
  · exact ⟨by omega, fun b hb => by simp at hb⟩
  · refine weak.mk [] [] rfl rfl ?_ ?_
    repeat' first | exact trivial | exact rfl | exact Iff.rfl | assumption | refine And.intro ?_ ?_
  · rintro k ⟨hk, hi⟩ R hR
    have hb := byL s k
    refine lenS.mk _ rfl ?_
    refine twoP.mk (fun _ => ?_) (fun _ => ?_)
    refine jk (by omega) ?_
    refine nw (by omega) (by omega) ?_
    refine callW.mk [] 0 _ _ _ (in_c _ _ _) rfl rfl trivial nofun ?_
    refine twoN (fun _ => ?_) (fun _ => ?_)
    rotate_left
    refine jk (by omega) ?_
    refine twoP.mk (fun _ => ?_) (fun _ => ?_)
    rotate_left
    refine nw (by omega) (by omega) ?_
    rotate_left
    refine lenS.mk _ rfl ?_
    rotate_left
    · rename_i h1 h2
      refine dv0 rfl ?_
      exact fun h => h2 (by have := h.1 _ (mem_at h1); omega)
    · rename_i h1 h2 h3
      refine dv0 rfl ?_
      exact fun h => (h.1 _ (mem_at h1)).2.2 (by omega)
    · rename_i h1 h2 h3
      refine hR (k + 1) _ _ ?_ (weak.mk [] [] rfl rfl ?_ ?_)
      repeat' first | exact trivial | exact rfl | exact Iff.rfl | assumption | refine And.intro ?_ ?_
      exact ⟨⟨by omega, take_more h1 hi ⟨by omega, by omega, by omega⟩⟩, by omega⟩
    · rename_i h1
      refine dv0 rfl ?_
      exact (show _ ↔ _ from ⟨fun h => ⟨take_end h1 hi, h⟩, fun h => h.2⟩)
theorem l1Stands_c (s : List UInt8) (hs : s.length ≤ 1099511627776) (x : Nat) (hx : x < 256) : C 67 [.str s, .int .u8 x] [] (pr (∃ b ∈ s, b.toNat = x)) [] false := by
  refine mkC false false Tryd.func67 rfl ?_
  refine And.intro nofun ?_
  rotate_left
  refine loop_up (β := Nat) (fun k => [(5, i64 k), (4, .unk)]) (fun k => []) [] (fun k => k ≤ s.length ∧ ∀ b ∈ s.take k, b.toNat ≠ x) (fun k => s.length - k) (0) ?_ ?_ ?_
  · exact ⟨by omega, fun b hb => by simp at hb⟩
  · refine weak.mk [] [] rfl rfl ?_ ?_
    repeat' first | exact trivial | exact rfl | exact Iff.rfl | assumption | refine And.intro ?_ ?_
  · rintro k ⟨hk, hi⟩ R hR
    have hb := byL s k
    refine lenS.mk _ rfl ?_
    refine twoP.mk (fun _ => ?_) (fun _ => ?_)
    refine jk (by omega) ?_
    refine twoP.mk (fun _ => ?_) (fun _ => ?_)
    rotate_left
    refine nw (by omega) (by omega) ?_
    iterate 2 rotate_left
    · rename_i h1 h2
      refine dv0 rfl ?_
      exact ⟨_, mem_at h1, by omega⟩
    · rename_i h1 h2
      refine hR (k + 1) _ _ ?_ (weak.mk [] [] rfl rfl ?_ ?_)
      repeat' first | exact trivial | exact rfl | exact Iff.rfl | assumption | refine And.intro ?_ ?_
      exact ⟨⟨by omega, take_more h1 hi (by omega)⟩, by omega⟩
    · rename_i h1
      refine dv0 rfl ?_
      exact fun ⟨b, h, e⟩ => take_end h1 hi b h e
end Sx
