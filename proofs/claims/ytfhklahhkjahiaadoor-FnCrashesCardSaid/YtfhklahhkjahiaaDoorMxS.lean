/- Plain words: crashes. -/
import Derived.Test.YtfhklahhkjahiaaDoorMxR
import Derived.Test.YtfhklahhkjahiaaDoorMxE
set_option linter.all false
namespace Sx
abbrev i8 (b : UInt8) : AV := .int .u8 (b.toNat : Int)
theorem wrap_u8 {z : Int} (h0 : 0 ≤ z) (h1 : z < 256) : Go.IntKind.u8.wrap z = z := by
  have : Go.IntKind.u8.wrap z = z % 256 := by
    simp [Go.IntKind.wrap, Go.IntKind.bits, Go.IntKind.signed]
  omega
/-- A byte is turned. -/
def flipB (bs : List UInt8) (i : Nat) : List UInt8 := bs.set i (UInt8.ofNat (255 - (bs.getD i 0).toNat))
theorem flip_row (bs : List UInt8) {i : Nat} (h : i < bs.length) : (bs.map i8).set i (.int .u8 (255 - (bs[i].toNat : Int))) = (flipB bs i).map i8 := by
  unfold flipB
  rw [List.map_set, getD_at h]
  congr 1
  have h1 := UInt8.toNat_lt bs[i]
  have h2 : (UInt8.ofNat (255 - bs[i].toNat)).toNat = 255 - bs[i].toNat := by
    rw [UInt8.toNat_ofNat_of_lt']
    show _ < 256
    omega
  show AV.int .u8 _ = AV.int .u8 _
  rw [h2]
  congr 1
  omega
theorem flip_row2 (bs : List UInt8) {i : Nat} (h : i < bs.length) : (bs.map i8).set i (.int .u8 (Go.IntKind.u8.wrap (255 - (bs[i].toNat : Int)))) = (flipB bs i).map i8 := by
  rw [← flip_row bs h]
  congr 2
  have h1 := UInt8.toNat_lt bs[i]
  refine wrap_u8 ?_ ?_ <;> omega
theorem flip_app {D b : List UInt8} (h : 0 < b.length) : flipB (D ++ b) ((D ++ b).length - 1) = D ++ flipB b (b.length - 1) := by
  unfold flipB
  have e : (D ++ b).length - 1 = D.length + (b.length - 1) := by simp; omega
  rw [e, List.set_append_right _ _ (by omega), show D.length + (b.length - 1) - D.length = b.length - 1 by omega]
  congr 2
  rw [List.getD_eq_getElem?_getD, List.getD_eq_getElem?_getD, List.getElem?_append_right (by omega), show D.length + (b.length - 1) - D.length = b.length - 1 by omega]
@[simp] theorem flip_len (b : List UInt8) (i : Nat) : (flipB b i).length = b.length := by simp [flipB]
def crOk (D P : List UInt8) (n q : Int) : Prop := logOk D P n ∧ 0 ≤ q ∧ q ≤ P.length
noncomputable instance (D P : List UInt8) (n q : Int) : Decidable (crOk D P n q) := Classical.propDecidable _
/-- What is left. -/
def leftB (D P : List UInt8) (q : Nat) (t : Bool) : List UInt8 := if t = true ∧ 0 < q then D ++ flipB (P.take q) (q - 1) else D ++ P.take q
noncomputable def crS (D P : List UInt8) (n q : Int) (t : Bool) : List UInt8 := if crOk D P n q then leftB D P q.toNat t else []
/-- The text of a mark. -/
def mkT (k : Int) : List UInt8 := if k ≤ 0 then [109, 48] else [109] ++ Go.Lib.itoa k
theorem mkT_no {k : Int} (h : k ≤ 0) : mkT k = [109, 48] := if_pos h
theorem mkT_yes {k : Int} (h : ¬ k ≤ 0) : mkT k = [109] ++ Go.Lib.itoa k := if_neg h
/-- What is written is the end of the number's text. -/
def tailT2 (m : Int) (o : List UInt8) (k : Int) : Prop := (if m ≤ 0 then [] else Go.Lib.itoa m) ++ o = Go.Lib.itoa k
theorem tailT2_start {k : Int} (h : 0 < k) : tailT2 k [] k := by unfold tailT2; rw [if_neg (by omega), List.append_nil]
theorem tailT2_len {m k : Int} {o : List UInt8} (h : tailT2 m o k) : o.length ≤ (Go.Lib.itoa k).length := by
  unfold tailT2 at h
  rw [← h, List.length_append]
  omega
theorem tailT2_step {m k : Int} {o : List UInt8} (hm : 0 < m) (h : tailT2 m o k) : tailT2 (m / 10) ([UInt8.ofNat (48 + (m % 10).toNat)] ++ o) k := by
  unfold tailT2 at h ⊢
  rw [if_neg (by omega)] at h
  rw [← h, ← List.append_assoc]
  congr 1
  by_cases h10 : m < 10
  · rw [if_pos (by omega), itoa_small (by omega) h10, show m % 10 = m by omega]
    rfl
  · rw [if_neg (by omega), ← itoa_big (by omega)]
theorem tailT2_end {m k : Int} {o : List UInt8} (hm : ¬ 0 < m) (h : tailT2 m o k) : o = Go.Lib.itoa k := by
  unfold tailT2 at h
  rwa [if_pos (by omega), List.nil_append] at h
theorem dig_row {m : Int} (h : 0 ≤ m) : [AV.int .u8 (48 + m % 10)] = [UInt8.ofNat (48 + (m % 10).toNat)].map i8 := by
  have : (UInt8.ofNat (48 + (m % 10).toNat)).toNat = 48 + (m % 10).toNat := by
    rw [UInt8.toNat_ofNat_of_lt']
    show _ < 256
    omega
  show [AV.int .u8 _] = [AV.int .u8 _]
  rw [this]
  congr 2
  omega
theorem dig_row2 {m : Int} (h : 0 ≤ m) : [AV.int .u8 (Go.IntKind.u8.wrap (48 + m % 10))] = [UInt8.ofNat (48 + (m % 10).toNat)].map i8 := by
  rw [wrap_u8 (by omega) (by omega)]
  exact dig_row h
abbrev conv (y : Yd) (D P : List UInt8) (n : Int) : AV := .agg [i64 y.n, bv y.b, ints y.w, sens y.S, cars y.K, i64 y.c, .str D, .str P, i64 n]
theorem szY_le {y : Yd} : szY y 1048576 ≤ 1048576 := by
  unfold szY
  repeat' split
  all_goals omega
def marksT (k : Int) (n : Nat) : List (List UInt8 × List UInt8) := (List.range n).map fun i => (mkT (k + 2 * (i : Nat)), mkT (k + 2 * (i : Nat) + 1))
@[simp] theorem marksT_len (k : Int) (n : Nat) : (marksT k n).length = n := by simp [marksT]
theorem marksT_succ (k : Int) (n : Nat) : marksT k (n + 1) = marksT k n ++ [(mkT (k + 2 * (n : Nat)), mkT (k + 2 * (n : Nat) + 1))] := by simp [marksT, List.range_succ]
theorem marksT_get {k : Int} {n i : Nat} (h : i < (marksT k n).length) : (marksT k n)[i] = (mkT (k + 2 * (i : Nat)), mkT (k + 2 * (i : Nat) + 1)) := by simp [marksT]
theorem esetR {l : List (List UInt8 × List UInt8)} {j : Nat} {p q : List UInt8} {K : List AV → Prop} (hk : K ((l.set j (p, q)).map rcv)) : eqL ((l.map rcv).set j (.agg [.str p, .str q])) K := .mk _ (by rw [List.map_set]) hk
end Sx
