/- Contracts: records. -/
import Derived.Test.YtfhklahhkjahiaaDoorSxC
import Derived.Test.YtfhklahhkjahiaaDoorCu
import Derived.Test.YtfhklahhkjahiaaDoorShX
set_option linter.all false
namespace Sx
open Go Go.Proofs
set_option maxRecDepth 100000
set_option maxHeartbeats 4000000
set_option linter.unusedSimpArgs false
set_option linter.unusedSectionVars false
variable [Glb]
theorem ContainsAny_c (s o : List UInt8) (hs : s.length ≤ 1099511627) (ho : o.length ≤ 1000) (hsa : ∀ b ∈ s, b.toNat < 128) (hoa : ∀ b ∈ o, b.toNat < 128) : C 80 [.str s, .str o] [] (bv (Go.Lib.containsAny s o)) [] false := cf_pure fun w vs E Z hv _ => by
  obtain ⟨c, d, rfl, h1, h2⟩ := vs2 hv
  obtain ⟨x, rfl, rfl⟩ := h1.str_inv
  obtain ⟨y, rfl, rfl⟩ := h2.str_inv
  have e1 : x.size = x.data.toList.length := Go.Lib.size_eq x
  have e2 : y.size = y.data.toList.length := Go.Lib.size_eq y
  refine ⟨Go.Proofs.enters_of Tryd.func80 (by kernel_rfl) rfl _ _, calls_mono (Tryd.strings_ContainsAny_laid x y w (by omega) (by omega) (fun j b hb => hsa b (List.mem_of_getElem? hb)) fun j b hb => hoa b (List.mem_of_getElem? hb)) fun e w' ⟨h1, h2⟩ => ⟨_, h1, ?_, h2⟩⟩
  have := Rep.prop (Z := fun _ => False) (w := w') (Go.Lib.containsAny x.data.toList y.data.toList = true) (instDecidableEqBool _ true)
  rwa [show decide (Go.Lib.containsAny x.data.toList y.data.toList = true) = Go.Lib.containsAny x.data.toList y.data.toList by cases Go.Lib.containsAny x.data.toList y.data.toList <;> rfl] at this
theorem isPlain_c (s o : List UInt8) (hs : s.length ≤ 1099511627) (ho : o.length ≤ 1000) (hoa : ∀ b ∈ o, b.toNat < 128) (m : Int) : C 63 [.str s, i64 m, .str o] [] (pr (plainB s ∧ (s.length : Int) ≤ m ∧ ∀ b ∈ s, b ∉ o)) [] false := by
  refine mkC false false Tryd.func63 rfl ?_
  refine And.intro nofun ?_
  refine lenS.mk _ rfl ?_
  rotate_left
  refine loop_up (β := Nat) (fun k => [(10, i64 k), (6, .unk)]) (fun k => []) [] (fun k => k ≤ s.length ∧ plainB (s.take k)) (fun k => s.length - k) (0) ?_ ?_ ?_
  · exact ⟨by omega, fun b hb => by simp at hb⟩
  · refine weak.mk [] [] rfl rfl ?_ ?_
    repeat' first | exact trivial | exact rfl | exact Iff.rfl | assumption | refine And.intro ?_ ?_
  · rintro k ⟨hk, hi⟩ R hR
    have hb := byL s k
    by_cases h1 : (k : Int) < (s.length : Int)
    · refine tY (by first | omega | assumption | exact rfl | exact Iff.rfl) ?_
      refine jk (by omega) ?_
      refine twoP.mk (fun _ => ?_) (fun _ => ?_)
      rotate_left
      refine jk (by omega) ?_
      refine twoP.mk (fun _ => ?_) (fun _ => ?_)
      rotate_left
      refine nw (by omega) (by omega) ?_
      rotate_left
      · rename_i h2
        refine dv0 rfl ?_
        exact fun h => by have := h.1 _ (mem_at h1); omega
      · rename_i h2 h3
        refine dv0 rfl ?_
        exact fun h => by have := h.1 _ (mem_at h1); omega
      · rename_i h2 h3
        refine hR (k + 1) _ _ ?_ (weak.mk [] [] rfl rfl ?_ ?_)
        repeat' first | exact trivial | exact rfl | exact Iff.rfl | assumption | refine And.intro ?_ ?_
        exact ⟨⟨by omega, take_more h1 hi ⟨by omega, by omega⟩⟩, by omega⟩
    · have hp : plainB s := take_end h1 hi
      have hsa : ∀ b ∈ s, b.toNat < 128 := fun b hb => by have := hp b hb; omega
      refine tN (by first | omega | assumption | exact fun h => h (by assumption) | exact fun h => h rfl | exact fun h => h Iff.rfl) ?_
      refine lenS.mk _ rfl ?_
      refine twoP.mk (fun _ => ?_) (fun _ => ?_)
      refine callW.mk [] 0 _ _ _ (ContainsAny_c _ _ (by first | omega | assumption | (simp; omega) | (simp; done) | exact hoa _ (List.getElem_mem _) | exact hsa _ (List.getElem_mem _)) (by first | omega | assumption | (simp; omega) | (simp; done) | exact hoa _ (List.getElem_mem _) | exact hsa _ (List.getElem_mem _)) (by first | omega | assumption | (simp; omega) | (simp; done) | exact hoa _ (List.getElem_mem _) | exact hsa _ (List.getElem_mem _)) (by first | omega | assumption | (simp; omega) | (simp; done) | exact hoa _ (List.getElem_mem _) | exact hsa _ (List.getElem_mem _))) rfl rfl trivial nofun ?_
      iterate 2 rotate_left
      · rename_i h2
        refine dv0 rfl ?_
        exact any_iff.trans (show _ ↔ _ from ⟨fun h => ⟨hp, h2, h⟩, fun h => h.2.2⟩)
      · rename_i h2
        refine dv0 rfl ?_
        exact fun h => h2 h.2.1
theorem isCommand_c (s : List UInt8) (hs : s.length ≤ 1099511627) : C 62 [.str s] [] (pr (s ≠ [] ∧ (clean s 35 ∧ (s.length : Int) ≤ 160) ∧ ¬ ∃ b ∈ s, b.toNat = 64)) [] false := by
  refine mkC false false Tryd.func62 rfl ?_
  refine And.intro nofun ?_
  have ho : ([35, 64] : List UInt8).length ≤ 1000 := by simp
  have hoa : ∀ b ∈ ([35, 64] : List UInt8), b.toNat < 128 := by decide
  refine twoN (fun _ => ?_) (fun _ => ?_)
  refine callW.mk [] 0 _ _ _ ((isPlain_c s [35, 64] hs ho hoa 160)) rfl rfl (by repeat' first | exact trivial | assumption | exact knownSS | exact knownApp knownSS knownNil | refine And.intro ?_ ?_) nofun ?_
  iterate 2 rotate_left
  · rename_i h1
    refine dv0 rfl ?_
    exact (plain2 160).trans (show _ ↔ _ from ⟨fun h => ⟨h1, h⟩, fun h => h.2⟩)
  · rename_i h1
    refine dv0 rfl ?_
    exact fun h => h.1 h1
theorem IsValidRecord_c (c r : List UInt8) (hc : c.length ≤ 1099511627) (hr : r.length ≤ 1099511627) : C 40 [rec2 c r] [] (pr (recOk c r)) [] false := by
  refine mkC false false Tryd.func40 rfl ?_
  refine And.intro nofun ?_
  have ho : ([35] : List UInt8).length ≤ 1000 := by simp
  have hoa : ∀ b ∈ ([35] : List UInt8), b.toNat < 128 := by decide
  iterate 2 refine Z ?_
  refine callW.mk [] 1 _ _ _ (isCommand_c _ (by first | omega | assumption | (simp; omega) | (simp; done) | exact hoa _ (List.getElem_mem _))) rfl rfl trivial nofun ?_
  refine twoP.mk (fun _ => ?_) (fun _ => ?_)
  refine Z ?_
  refine callW.mk [] 1 _ _ _ ((isPlain_c r [35] hr ho hoa 250)) rfl rfl (by repeat' first | exact trivial | assumption | exact knownSS | exact knownApp knownSS knownNil | refine And.intro ?_ ?_) nofun ?_
  iterate 2 rotate_left
  all_goals rename_i h1
  · refine doneV.mk [] [] rfl rfl ?_ ?_ ?_
    repeat' first | exact trivial | exact rfl | exact Iff.rfl | assumption | exact pureI | exact (show _ = _ by omega) | exact (show _ ≤ _ by omega) | exact (show _ < _ by omega) | exact (show ¬ _ by omega) | refine And.intro ?_ ?_
    exact (plain1 250).trans (show _ ↔ _ from ⟨fun h => ⟨h1.1, h1.2.1, h1.2.2, h.1, h.2⟩, fun h => ⟨h.2.2.2.1, h.2.2.2.2⟩⟩)
  · refine doneV.mk [] [] rfl rfl ?_ ?_ ?_
    repeat' first | exact trivial | exact rfl | exact Iff.rfl | assumption | exact pureI | exact (show _ = _ by omega) | exact (show _ ≤ _ by omega) | exact (show _ < _ by omega) | exact (show ¬ _ by omega) | refine And.intro ?_ ?_
    exact fun h => h1 ⟨h.1, h.2.1, h.2.2.1⟩
theorem l12Record_c (c r : List UInt8) (hc : c.length ≤ 1099511627) (hr : r.length ≤ 1099511627) : C 46 [rec2 c r] [] (pr (recOk c r)) [] false := by
  have hc' : c.length ≤ 1099511627776 := by omega
  have hr' : r.length ≤ 1099511627776 := by omega
  refine mkC false false Tryd.func46 rfl ?_
  refine And.intro nofun ?_
  iterate 2 refine Z ?_
  refine twoN (fun _ => ?_) (fun _ => ?_)
  refine Z ?_
  refine callW.mk [] 1 _ _ _ ((l12Bytes_c c hc' 160)) rfl rfl (by repeat' first | exact trivial | assumption | exact knownSS | exact knownApp knownSS knownNil | refine And.intro ?_ ?_) nofun ?_
  refine twoP.mk (fun _ => ?_) (fun _ => ?_)
  refine Z ?_
  refine callW.mk [] 1 _ _ _ ((l1Stands_c c hc' 64 (by omega))) rfl rfl (by repeat' first | exact trivial | assumption | exact knownSS | exact knownApp knownSS knownNil | refine And.intro ?_ ?_) nofun ?_
  refine twoN (fun _ => ?_) (fun _ => ?_)
  refine Z ?_
  refine callW.mk [] 1 _ _ _ ((l12Bytes_c r hr' 250)) rfl rfl (by repeat' first | exact trivial | assumption | exact knownSS | exact knownApp knownSS knownNil | refine And.intro ?_ ?_) nofun ?_
  iterate 4 rotate_left
  · rename_i h1 h2 h3
    refine doneV.mk [] [] rfl rfl ?_ ?_ ?_
    repeat' first | exact trivial | exact rfl | exact Iff.rfl | assumption | exact pureI | exact (show _ = _ by omega) | exact (show _ ≤ _ by omega) | exact (show _ < _ by omega) | exact (show ¬ _ by omega) | refine And.intro ?_ ?_
    exact (show _ ↔ _ from ⟨fun h => ⟨h1, h2, h3, h⟩, fun h => h.2.2.2⟩)
  · rename_i h1 h2 h3
    refine doneV.mk [] [] rfl rfl ?_ ?_ ?_
    repeat' first | exact trivial | exact rfl | exact Iff.rfl | assumption | exact pureI | exact (show _ = _ by omega) | exact (show _ ≤ _ by omega) | exact (show _ < _ by omega) | exact (show ¬ _ by omega) | refine And.intro ?_ ?_
    exact fun h => h.2.2.1 h3
  · rename_i h1 h2
    refine doneV.mk [] [] rfl rfl ?_ ?_ ?_
    repeat' first | exact trivial | exact rfl | exact Iff.rfl | assumption | exact pureI | exact (show _ = _ by omega) | exact (show _ ≤ _ by omega) | exact (show _ < _ by omega) | exact (show ¬ _ by omega) | refine And.intro ?_ ?_
    exact fun h => h2 h.2.1
  · rename_i h1
    refine doneV.mk [] [] rfl rfl ?_ ?_ ?_
    repeat' first | exact trivial | exact rfl | exact Iff.rfl | assumption | exact pureI | exact (show _ = _ by omega) | exact (show _ ≤ _ by omega) | exact (show _ < _ by omega) | exact (show ¬ _ by omega) | refine And.intro ?_ ?_
    exact fun h => h.1 h1
end Sx
