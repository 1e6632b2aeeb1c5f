import Derived.WalkKit
import Derived.WalkSpells
namespace Go.Proofs.Qxb6500776a
open Go.RowKit

theorem and_mask32 (z : Int) (h0 : 0 ≤ z) (h1 : z < 18446744073709551616) : bits BinOp.and .u64 z 4294967295 = z % 4294967296 := by
  obtain ⟨n, rfl⟩ := Int.eq_ofNat_of_zero_le h0
  have := bits_and_u64_nat n 4294967295 (by omega) (by omega)
  have e : n &&& 4294967295 = n % 4294967296 := Nat.and_two_pow_sub_one_eq_mod n 32
  rw [e] at this
  simpa using this
theorem xor_max (z : Int) (h0 : 0 ≤ z) (h1 : z < 18446744073709551616) : bits BinOp.xor .u64 IntKind.u64.max z = 18446744073709551615 - z := by
  obtain ⟨n, rfl⟩ := Int.eq_ofNat_of_zero_le h0
  have h2 : (BitVec.ofInt 64 (n : Int)).toNat = n := by
    rw [BitVec.ofInt_natCast, BitVec.toNat_ofNat]; exact Nat.mod_eq_of_lt (by omega)
  show IntKind.u64.wrap ((BitVec.ofInt 64 IntKind.u64.max ^^^ BitVec.ofInt 64 (n : Int)).toNat : Int) = _
  have e : BitVec.ofInt 64 IntKind.u64.max = BitVec.allOnes 64 := by decide
  rw [e, BitVec.allOnes_xor, BitVec.toNat_not, h2, IntKind.wrap_u64]
  omega
end Go.Proofs.Qxb6500776a
