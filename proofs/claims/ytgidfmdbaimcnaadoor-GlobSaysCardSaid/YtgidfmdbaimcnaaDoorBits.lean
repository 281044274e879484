/- Bits of numbers: small lemmas of our own on the model's 'bits' at 64 and 32 bits, over any program. -/
import Derived.WalkKit
import Derived.Test.YtgidfmdbaimcnaaDoorRows
namespace Go.Proofs.YtgidfmdbaimcnaaDoor
open Go.RowKit

theorem bits_xor_zero_u64 (a : Int) (h0 : 0 ≤ a) (h1 : a < 18446744073709551616) : bits .xor .u64 a 0 = a := by
  obtain ⟨n, rfl⟩ := Int.eq_ofNat_of_zero_le h0
  have := u64_xor_nat n 0 (by omega) (by decide)
  simpa using this
theorem bits_xor_ones_u64 (a : Int) (h0 : 0 ≤ a) (h1 : a < 18446744073709551616) : bits .xor .u64 a 18446744073709551615 = 18446744073709551615 - a := by
  obtain ⟨n, rfl⟩ := Int.eq_ofNat_of_zero_le h0
  have h := u64_xor_nat n 18446744073709551615 (by omega) (by decide)
  have e : n ^^^ 18446744073709551615 = 18446744073709551615 - n := by
    have h2 : (BitVec.ofNat 64 n ^^^ BitVec.allOnes 64).toNat = n ^^^ 18446744073709551615 := by
      rw [BitVec.toNat_xor, BitVec.toNat_ofNat, Nat.mod_eq_of_lt (by omega)]; rfl
    rw [← h2, BitVec.xor_allOnes, BitVec.toNat_not, BitVec.toNat_ofNat, Nat.mod_eq_of_lt (by omega)]
  rw [e] at h
  rw [show (18446744073709551615 : Int) = ((18446744073709551615 : Nat) : Int) from rfl, h]
  omega
theorem bits_xor_zero_i64 (a : Int) (h0 : 0 ≤ a) (h1 : a < 9223372036854775808) : bits .xor .i64 a 0 = a := by
  unfold bits
  have : BitVec.ofInt IntKind.i64.bits 0 = 0#IntKind.i64.bits := rfl
  simp only [this, BitVec.xor_zero]
  rw [IntKind.wrap_i64]
  have : (BitVec.ofInt IntKind.i64.bits a).toNat = a.toNat := by
    obtain ⟨n, rfl⟩ := Int.eq_ofNat_of_zero_le h0
    show (BitVec.ofInt 64 (n : Int)).toNat = n
    rw [BitVec.ofInt_natCast, BitVec.toNat_ofNat]; exact Nat.mod_eq_of_lt (by omega)
  rw [this]; omega
theorem bits_xor_ones_i64 (a : Int) (h0 : 0 ≤ a) (h1 : a < 9223372036854775808) : bits .xor .i64 a (-1) = - a - 1 := by
  unfold bits
  have : BitVec.ofInt IntKind.i64.bits (-1) = BitVec.allOnes IntKind.i64.bits := rfl
  simp only [this, BitVec.xor_allOnes, BitVec.toNat_not]
  rw [IntKind.wrap_i64]
  have : (BitVec.ofInt IntKind.i64.bits a).toNat = a.toNat := by
    obtain ⟨n, rfl⟩ := Int.eq_ofNat_of_zero_le h0
    show (BitVec.ofInt 64 (n : Int)).toNat = n
    rw [BitVec.ofInt_natCast, BitVec.toNat_ofNat]; exact Nat.mod_eq_of_lt (by omega)
  rw [this, show (2 : Nat) ^ IntKind.i64.bits = 18446744073709551616 from rfl]; omega

/-- Zigzag. -/
def zig (n : Int) : Int := if 0 ≤ n then 2 * n else -2 * n - 1
def zag (u : Int) : Int := if u % 2 = 0 then u / 2 else -(u / 2) - 1

theorem zig_bits (n : Int) (h0 : -9223372036854775808 ≤ n) (h1 : n ≤ 9223372036854775807) :
    bits .xor .u64 (IntKind.u64.wrap (IntKind.u64.wrap n * 2)) (IntKind.u64.wrap (n / 9223372036854775808)) = zig n := by
  unfold zig
  split
  · rw [show n / 9223372036854775808 = 0 by omega, show IntKind.u64.wrap 0 = 0 from rfl, IntKind.wrap_u64, IntKind.wrap_u64, bits_xor_zero_u64 _ (by omega) (by omega)]
    omega
  · rw [show n / 9223372036854775808 = -1 by omega, show IntKind.u64.wrap (-1) = 18446744073709551615 from rfl, IntKind.wrap_u64, IntKind.wrap_u64, bits_xor_ones_u64 _ (by omega) (by omega)]
    omega
theorem and_one_u64 (u : Int) (h0 : 0 ≤ u) (h1 : u < 18446744073709551616) : bits .and .u64 u 1 = u % 2 := by
  obtain ⟨n, rfl⟩ := Int.eq_ofNat_of_zero_le h0
  have h := u64_and_nat n 1 (by omega) (by decide)
  rw [nat_mask1] at h
  exact h
theorem zag_bits (n : Int) (h0 : 0 ≤ n) (h1 : n ≤ 18446744073709551615) :
    bits .xor .i64 (n / 2) (wrap64 (-wrap64 (bits .and .u64 n 1))) = zag n := by
  rw [and_one_u64 n h0 (by omega)]
  unfold zag
  rcases (show n % 2 = 0 ∨ n % 2 = 1 by omega) with h | h
  · rw [h, if_pos rfl, show wrap64 (-wrap64 0) = 0 by unfold wrap64; omega, bits_xor_zero_i64 _ (by omega) (by omega)]
  · rw [h, if_neg (by decide), show wrap64 (-wrap64 1) = -1 by unfold wrap64; omega, bits_xor_ones_i64 _ (by omega) (by omega)]
theorem wf_i64_bd {n : Int} (h : (Lit.int .i64 n).wf = true) : -9223372036854775808 ≤ n ∧ n ≤ 9223372036854775807 := by
  simpa [Lit.wf, IntKind.min, IntKind.max, IntKind.signed, IntKind.bits] using h
theorem wf_u64_bd {n : Int} (h : (Lit.int .u64 n).wf = true) : 0 ≤ n ∧ n ≤ 18446744073709551615 := by
  simpa [Lit.wf, IntKind.min, IntKind.max, IntKind.signed, IntKind.bits] using h
theorem wf_u32_bd {n : Int} (h : (Lit.int .u32 n).wf = true) : 0 ≤ n ∧ n ≤ 4294967295 := by
  simpa [Lit.wf, IntKind.min, IntKind.max, IntKind.signed, IntKind.bits] using h
theorem wf_u8_bd {n : Int} (h : (Lit.int .u8 n).wf = true) : 0 ≤ n ∧ n ≤ 255 := by
  simpa [Lit.wf, IntKind.min, IntKind.max, IntKind.signed, IntKind.bits] using h
end Go.Proofs.YtgidfmdbaimcnaaDoor
