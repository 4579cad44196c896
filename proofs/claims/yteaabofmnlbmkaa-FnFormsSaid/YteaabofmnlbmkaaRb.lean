/- What the statements read of bytes. -/
import Derived.Test.YteaabofmnlbmkaaRa
import Derived.Test.YteaabofmnlbmkaaMxA
set_option linter.all false
namespace Sx
open Go Go.Proofs
set_option maxRecDepth 100000
set_option maxHeartbeats 4000000
theorem rdByte : Reads Try.prog 5 (RF i8 fun _ => True) := Reads.imp (reads_int (k := .u8) (by kernel_rfl)) fun x ⟨n, h1, h2, h3⟩ => ⟨UInt8.ofNat n.toNat, trivial, by
  have h1' : 0 ≤ n := h1
  have h2' : n ≤ 255 := h2
  rw [h3]
  show AV.int .u8 n = AV.int .u8 ((UInt8.ofNat n.toNat).toNat : Int)
  congr 1
  rw [UInt8.toNat_ofNat']
  omega⟩
theorem rdBytes : Reads Try.prog 46 (RF (fun L : List UInt8 => .sl 1 (L.map i8)) (okL fun _ => True)) := reads_l (by kernel_rfl) (by kernel_rfl) (by omega) rdByte
theorem arBytes {ts : List TypeId} {Rs : List (AV → Prop)} (rest : ArgsR Try.prog ts Rs) : ArgsR Try.prog (46 :: ts) (RF (fun L : List UInt8 => .sl 1 (L.map i8)) (okL fun _ => True) :: Rs) := arg_atom rdBytes (by kernel_rfl) (by kernel_rfl) (RF.noAgg nofun) rest
end Sx
