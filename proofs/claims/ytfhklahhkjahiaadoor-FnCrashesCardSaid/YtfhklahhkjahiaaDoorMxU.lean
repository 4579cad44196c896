/- Plain words: draws. -/
import Derived.Test.YtfhklahhkjahiaaDoorMxS
set_option linter.all false
namespace Sx
/-- The reader of a code: the place and the seed. -/
abbrev cur (L : List UInt8) (a s : Int) : Ent := .row .var 3 [.agg [.sl 1 (L.map i8), i64 a, .int .u64 s]]
theorem and255 (a : Int) : 0 ≤ bitsOp .and .u64 a 255 ∧ bitsOp .and .u64 a 255 ≤ 255 := by
  unfold bitsOp
  dsimp only
  have h : ((BitVec.ofInt 64 a &&& BitVec.ofInt 64 255).toNat : Int) ≤ 255 := by
    rw [BitVec.toNat_and]
    have := @Nat.and_le_right (BitVec.ofInt 64 a).toNat (BitVec.ofInt 64 255).toNat
    have e : (BitVec.ofInt 64 255).toNat = 255 := by decide
    rw [e] at this ⊢
    omega
  show 0 ≤ Go.IntKind.u64.wrap ((BitVec.ofInt 64 a &&& BitVec.ofInt 64 255).toNat : Int) ∧ Go.IntKind.u64.wrap ((BitVec.ofInt 64 a &&& BitVec.ofInt 64 255).toNat : Int) ≤ 255
  generalize (BitVec.ofInt 64 a &&& BitVec.ofInt 64 255).toNat = x at h
  have hw : Go.IntKind.u64.wrap (x : Int) = (x : Int) := by
    unfold Go.IntKind.wrap
    simp [Go.IntKind.signed, Go.IntKind.bits]
    omega
  rw [hw]
  omega
@[simp] def allI : List AV → Prop
  | [] => True
  | .int .i64 _ :: es => allI es
  | _ => False
theorem allI_map : ∀ {es : List AV}, allI es → ∃ l : List Int, es = l.map i64
  | [], _ => ⟨[], rfl⟩
  | .int .i64 n :: es, h => let ⟨l, e⟩ := allI_map (es := es) h; ⟨n :: l, by rw [e]; rfl⟩
theorem i8_bd (b : UInt8) : 0 ≤ (b.toNat : Int) ∧ (b.toNat : Int) ≤ 255 := by have := b.toNat_lt; omega
def sdN (s b : Int) : Int := Go.IntKind.u64.wrap (Go.IntKind.u64.wrap (Go.IntKind.u64.wrap (s * 6364136223846793005) + Go.IntKind.u64.wrap b) + 462197)
theorem num255 {A : Int} {K : AV → Prop} (h : ∀ x : Int, 0 ≤ x → x ≤ 255 → K (.int .i64 x)) : num .i64 (Go.IntKind.i64.wrap (bitsOp .and .u64 A 255)) K := by
  have := and255 A
  refine nw (by omega) (by omega) (h _ this.1 this.2)
theorem u8_row (A : List UInt8) (n : Int) : List.map i8 A ++ [AV.int .u8 (Go.IntKind.u8.wrap n)] = List.map i8 (A ++ [UInt8.ofNat (n % 256).toNat]) := by
  rw [List.map_append]
  congr 1
  show [AV.int .u8 (Go.IntKind.u8.wrap n)] = [AV.int .u8 ((UInt8.ofNat (n % 256).toNat).toNat : Int)]
  have h : Go.IntKind.u8.wrap n = n % 256 := by
    unfold Go.IntKind.wrap
    simp [Go.IntKind.signed, Go.IntKind.bits]
  have e : ((UInt8.ofNat (n % 256).toNat).toNat : Int) = n % 256 := by
    rw [UInt8.toNat_ofNat']
    omega
  rw [h, e]
theorem pureM {α : Type} {f : α → AV} {s : Nat} {l : List α} (h : ∀ a, pure2 (f a) = true) : pureE (.row .plain s (l.map f)) := by
  intro e he
  obtain ⟨a, _, rfl⟩ := List.mem_map.1 he
  exact h a
end Sx
