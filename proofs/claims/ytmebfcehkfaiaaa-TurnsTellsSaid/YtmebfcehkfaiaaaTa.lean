/- The masks of layer 23. -/
import Derived.Test.YtmebfcehkfaiaaaVLT
import Derived.IntWalk
set_option linter.all false
set_option maxRecDepth 100000
set_option maxHeartbeats 8000000
namespace Go.Proofs.Ytmebfcehkfaiaaa
open Go Go.VL
theorem and_mask31 (a : Int) : bitAnd .i64 a 2147483647 = a % 2147483648 := by
  unfold bitAnd
  have e : (BitVec.ofInt IntKind.i64.bits a &&& BitVec.ofInt IntKind.i64.bits 2147483647).toNat = (a % 18446744073709551616).toNat % 2147483648 := by
    show (BitVec.ofInt 64 a &&& BitVec.ofInt 64 2147483647).toNat = _
    rw [BitVec.toNat_and, BitVec.toNat_ofInt, BitVec.toNat_ofInt]
    have := Nat.and_two_pow_sub_one_eq_mod (a % 18446744073709551616).toNat 31
    simpa using this
  rw [e]
  have h1 : IntKind.i64.wrap (((a % 18446744073709551616).toNat % 2147483648 : Nat) : Int) = (((a % 18446744073709551616).toNat % 2147483648 : Nat) : Int) := by
    have : (((a % 18446744073709551616).toNat % 2147483648 : Nat) : Int) < 2147483648 := by omega
    have : 0 ≤ (((a % 18446744073709551616).toNat % 2147483648 : Nat) : Int) := by omega
    generalize (((a % 18446744073709551616).toNat % 2147483648 : Nat) : Int) = z at *
    rw [IntKind.wrap_i64]
    omega
  rw [h1]
  omega
end Go.Proofs.Ytmebfcehkfaiaaa
