/- The lowest bits of an int are its rest. Plain laws; conditions: none. -/
import Derived.Test.YtaepdbkfaoiimaaBase
import Derived.Laws.BitsLemmas
set_option linter.unusedVariables false
set_option linter.unusedSimpArgs false
namespace Go.Proofs.Ytaepdbkfaoiimaa
open Go.RowKit

theorem and_low (n : Int) (m j : Nat) (hm : m + 1 = 2 ^ j) (hj : j ≤ 8) : bits BinOp.and IntKind.i64 n (m : Int) = n % (2 ^ j : Nat) := by
  have h64 : (2 : Int) ^ IntKind.i64.bits = 18446744073709551616 := by decide
  have h64n : (2 : Nat) ^ IntKind.i64.bits = 18446744073709551616 := by decide
  have h2 : 2 ^ j ≤ 2 ^ 8 := Nat.pow_le_pow_right (by decide) hj
  have h2' : (2 : Nat) ^ 8 = 256 := by decide
  unfold bits
  simp only [BitVec.toNat_and, BitVec.toNat_ofInt]
  have e1 : ((m : Int) % ((2 ^ IntKind.i64.bits : Nat) : Int)).toNat = m := by rw [h64n]; omega
  have e2 : m = 2 ^ j - 1 := by omega
  rw [e1, e2, Nat.and_two_pow_sub_one_eq_mod, IntKind.wrap_i64]
  have e3 : ((n % ((2 ^ IntKind.i64.bits : Nat) : Int)).toNat : Int) = n % 18446744073709551616 := by rw [h64n]; omega
  have e4 : (((n % ((2 ^ IntKind.i64.bits : Nat) : Int)).toNat % 2 ^ j : Nat) : Int) = n % (2 ^ j : Nat) := by
    rw [Int.natCast_emod, e3]
    exact Int.emod_emod_of_dvd _ (by
      have : ((2 ^ j : Nat) : Int) ∣ ((2 ^ 64 : Nat) : Int) := Int.natCast_dvd_natCast.2 (Nat.pow_dvd_pow 2 (by omega))
      exact this)
  rw [e4]
  have hpos : 0 < 2 ^ j := Nat.pow_pos (by decide)
  have := Int.emod_nonneg n (b := ((2 ^ j : Nat) : Int)) (by omega)
  have := Int.emod_lt_of_pos n (b := ((2 ^ j : Nat) : Int)) (by omega)
  omega
theorem and63 (n : Int) : bits BinOp.and IntKind.i64 n 63 = n % 64 := and_low n 63 6 (by decide) (by decide)
theorem and31 (n : Int) : bits BinOp.and IntKind.i64 n 31 = n % 32 := and_low n 31 5 (by decide) (by decide)
theorem and15 (n : Int) : bits BinOp.and IntKind.i64 n 15 = n % 16 := and_low n 15 4 (by decide) (by decide)
theorem and7 (n : Int) : bits BinOp.and IntKind.i64 n 7 = n % 8 := and_low n 7 3 (by decide) (by decide)
theorem and3 (n : Int) : bits BinOp.and IntKind.i64 n 3 = n % 4 := and_low n 3 2 (by decide) (by decide)
theorem and1 (n : Int) : bits BinOp.and IntKind.i64 n 1 = n % 2 := and_low n 1 1 (by decide) (by decide)
end Go.Proofs.Ytaepdbkfaoiimaa
