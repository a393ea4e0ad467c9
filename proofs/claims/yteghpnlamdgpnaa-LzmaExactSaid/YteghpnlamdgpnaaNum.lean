/- Numbers: Go's operations on unsigned numbers, as operations on natural ones. No program in sight. -/
import Derived.WalkKit
namespace Go.Proofs.Yteghpnlamdgpnaa.Num
open Go.RowKit

/-- 2^64, behind a name: the walk does not like it written out. -/
def M64 : Nat := 18446744073709551616
def M32 : Nat := 4294967296
theorem M64_eq : M64 = 2 ^ 64 := rfl
theorem M32_eq : M32 = 2 ^ 32 := rfl

theorem xor64 {a b : Nat} (ha : a < M64) (hb : b < M64) : bits .xor .u64 (a : Int) (b : Int) = ((a ^^^ b : Nat) : Int) := by
  unfold M64 at *; exact u64_xor_nat a b ha hb
theorem and64 {a b : Nat} (ha : a < M64) (hb : b < M64) : bits .and .u64 (a : Int) (b : Int) = ((a &&& b : Nat) : Int) := by
  unfold M64 at *; exact u64_and_nat a b ha hb
theorem or64 {a b : Nat} (ha : a < M64) (hb : b < M64) : bits .or .u64 (a : Int) (b : Int) = ((a ||| b : Nat) : Int) := by
  unfold M64 at *; exact u64_or_nat a b ha hb
theorem xor8 {a b : Nat} (ha : a < 256) (hb : b < 256) : bits .xor .u8 (a : Int) (b : Int) = ((a ^^^ b : Nat) : Int) := u8_xor_nat a b ha hb
theorem xor32 {a b : Nat} (ha : a < M32) (hb : b < M32) : bits .xor .u32 (a : Int) (b : Int) = ((a ^^^ b : Nat) : Int) := by
  unfold M32 at *; exact u32_xor_nat a b ha hb
theorem and32 {a b : Nat} (ha : a < M32) (hb : b < M32) : bits .and .u32 (a : Int) (b : Int) = ((a &&& b : Nat) : Int) := by
  unfold M32 at *; exact u32_and_nat a b ha hb
theorem or32 {a b : Nat} (ha : a < M32) (hb : b < M32) : bits .or .u32 (a : Int) (b : Int) = ((a ||| b : Nat) : Int) := by
  unfold M32 at *; exact u32_or_nat a b ha hb
theorem and64_1 {a : Nat} (ha : a < M64) : bits .and .u64 (a : Int) 1 = ((a % 2 : Nat) : Int) := by
  have := and64 (b := 1) ha (by unfold M64; omega)
  rw [nat_mask1] at this
  exact this
theorem and32_1 {a : Nat} (ha : a < M32) : bits .and .u32 (a : Int) 1 = ((a % 2 : Nat) : Int) := by
  have := and32 (b := 1) ha (by unfold M32; omega)
  rw [nat_mask1] at this
  exact this
theorem xor_lt64 {a b : Nat} (ha : a < M64) (hb : b < M64) : a ^^^ b < M64 := by rw [M64_eq] at *; exact Nat.xor_lt_two_pow ha hb
theorem xor_lt32 {a b : Nat} (ha : a < M32) (hb : b < M32) : a ^^^ b < M32 := by rw [M32_eq] at *; exact Nat.xor_lt_two_pow ha hb
theorem xor_lt8 {a b : Nat} (ha : a < 256) (hb : b < 256) : a ^^^ b < 256 := Nat.xor_lt_two_pow (n := 8) ha hb
theorem wrap8 (a : Nat) : IntKind.u8.wrap (a : Int) = ((a % 256 : Nat) : Int) := by rw [IntKind.wrap_u8']; omega
theorem wrap32 (a : Nat) : IntKind.u32.wrap (a : Int) = ((a % M32 : Nat) : Int) := by rw [IntKind.wrap_u32']; unfold M32; omega
theorem wrap64u (a : Nat) : IntKind.u64.wrap (a : Int) = ((a % M64 : Nat) : Int) := by
  rw [show IntKind.u64.wrap (a : Int) = (a : Int) % 18446744073709551616 by simp [IntKind.wrap, IntKind.bits, IntKind.signed]]; unfold M64; omega
theorem div_cast (a k : Nat) : (a : Int) / (k : Int) = ((a / k : Nat) : Int) := by omega
end Go.Proofs.Yteghpnlamdgpnaa.Num
