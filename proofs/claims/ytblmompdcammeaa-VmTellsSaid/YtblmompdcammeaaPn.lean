/- Plain arithmetic of machine words: masks, sums of disjoint bits, the product and the quotient of two words. -/
import Derived.Test.YtblmompdcammeaaVLr
set_option linter.all false
namespace Go.Pm
open Go Go.VL
theorem ofInt_nat (a : Int) (h : 0 ≤ a) (h' : a < 18446744073709551616) : (BitVec.ofInt 64 a).toNat = a.toNat := by
  rw [BitVec.toNat_ofInt]
  have : a % (2 ^ 64 : Nat) = a := Int.emod_eq_of_lt h (by omega)
  rw [this]
theorem and_mask32 (a : Int) (h : 0 ≤ a) (h' : a < 18446744073709551616) : bitAnd .u64 a 4294967295 = a % 4294967296 := by
  unfold bitAnd
  have e : (BitVec.ofInt IntKind.u64.bits a &&& BitVec.ofInt IntKind.u64.bits 4294967295).toNat = a.toNat % 4294967296 := by
    show (BitVec.ofInt 64 a &&& BitVec.ofInt 64 4294967295).toNat = _
    rw [BitVec.toNat_and, ofInt_nat a h h', ofInt_nat _ (by omega) (by omega)]
    have := Nat.and_two_pow_sub_one_eq_mod a.toNat 32
    simpa using this
  rw [e, IntKind.wrap_u64]
  omega
theorem or_add (a b : Int) (n : Nat) (ha : 0 ≤ a) (hb : 0 ≤ b) (hb' : b < 2 ^ n) (hab : a * 2 ^ n + b < 18446744073709551616) : bitOr .u64 (a * 2 ^ n) b = a * 2 ^ n + b := by
  unfold bitOr
  obtain ⟨A, rfl⟩ := Int.eq_ofNat_of_zero_le ha
  obtain ⟨B, rfl⟩ := Int.eq_ofNat_of_zero_le hb
  have hB : B < 2 ^ n := by
    have e : ((2 : Int) ^ n) = ((2 ^ n : Nat) : Int) := by push_cast; rfl
    rw [e] at hb'
    omega
  have e1 : ((A : Int) * 2 ^ n) = ((A * 2 ^ n : Nat) : Int) := by push_cast; rfl
  rw [e1] at hab ⊢
  generalize hC : A * 2 ^ n = C at *
  have e : (BitVec.ofInt IntKind.u64.bits (C : Int) ||| BitVec.ofInt IntKind.u64.bits (B : Int)).toNat = C + B := by
    show (BitVec.ofInt 64 (C : Int) ||| BitVec.ofInt 64 (B : Int)).toNat = _
    rw [BitVec.toNat_or, ofInt_nat _ (by omega) (by omega), ofInt_nat _ (by omega) (by omega), Int.toNat_natCast, Int.toNat_natCast, ← hC, Nat.mul_comm]
    exact (Nat.two_pow_add_eq_or_of_lt hB A).symm
  rw [e, IntKind.wrap_u64]
  omega
theorem mul_hi (x y : Int) (hx : 0 ≤ x) (hx' : x ≤ 1099511627776) (hy : 0 ≤ y) (hy' : y ≤ 1099511627776) :
    (x / 4294967296 * (y / 4294967296) +
          (x / 4294967296 * bitAnd IntKind.u64 y 4294967295 +
                bitAnd IntKind.u64 x 4294967295 * bitAnd IntKind.u64 y 4294967295 % 18446744073709551616 / 4294967296) %
              18446744073709551616 /
            4294967296 +
        (bitAnd IntKind.u64
                ((x / 4294967296 * bitAnd IntKind.u64 y 4294967295 +
                    bitAnd IntKind.u64 x 4294967295 * bitAnd IntKind.u64 y 4294967295 % 18446744073709551616 /
                      4294967296) %
                  18446744073709551616)
                4294967295 +
              bitAnd IntKind.u64 x 4294967295 * (y / 4294967296)) %
            18446744073709551616 /
          4294967296) %
      18446744073709551616 =
    x * y / 18446744073709551616 := by
  rw [and_mask32 x hx (by omega), and_mask32 y hy (by omega), and_mask32 _ (by omega) (by omega)]
  have hxe : x = x / 4294967296 * 4294967296 + x % 4294967296 := by omega
  have hye : y = y / 4294967296 * 4294967296 + y % 4294967296 := by omega
  have hx1 : 0 ≤ x / 4294967296 ∧ x / 4294967296 ≤ 256 := by omega
  have hy1 : 0 ≤ y / 4294967296 ∧ y / 4294967296 ≤ 256 := by omega
  have hx0 : 0 ≤ x % 4294967296 ∧ x % 4294967296 ≤ 4294967295 := by omega
  have hy0 : 0 ≤ y % 4294967296 ∧ y % 4294967296 ≤ 4294967295 := by omega
  generalize x / 4294967296 = x1 at *
  generalize y / 4294967296 = y1 at *
  generalize x % 4294967296 = x0 at *
  generalize y % 4294967296 = y0 at *
  have e : x * y = x1 * y1 * 18446744073709551616 + (x1 * y0 + x0 * y1) * 4294967296 + x0 * y0 := by
    rw [hxe, hye]
    simp only [Int.add_mul, Int.mul_add]
    have a1 : x1 * 4294967296 * (y1 * 4294967296) = x1 * y1 * 18446744073709551616 := by
      rw [Int.mul_assoc, ← Int.mul_assoc 4294967296, Int.mul_comm 4294967296 y1, Int.mul_assoc y1, ← Int.mul_assoc]; rfl
    have a2 : x1 * 4294967296 * y0 = x1 * y0 * 4294967296 := by rw [Int.mul_assoc, Int.mul_comm 4294967296, ← Int.mul_assoc]
    have a3 : x0 * (y1 * 4294967296) = x0 * y1 * 4294967296 := by rw [Int.mul_assoc]
    rw [a1, a2, a3]
    omega
  have b00 := Int.mul_le_mul hx0.2 hy0.2 hy0.1 (by omega)
  have b10 := Int.mul_le_mul hx1.2 hy0.2 hy0.1 (by omega)
  have b01 := Int.mul_le_mul hx0.2 hy1.2 hy1.1 (by omega)
  have b11 := Int.mul_le_mul hx1.2 hy1.2 hy1.1 (by omega)
  have c00 := Int.mul_nonneg hx0.1 hy0.1
  have c10 := Int.mul_nonneg hx1.1 hy0.1
  have c01 := Int.mul_nonneg hx0.1 hy1.1
  have c11 := Int.mul_nonneg hx1.1 hy1.1
  rw [e]
  generalize x0 * y0 = p00 at *
  generalize x1 * y0 = p10 at *
  generalize x0 * y1 = p01 at *
  generalize x1 * y1 = p11 at *
  clear e hxe hye
  omega
end Go.Pm
