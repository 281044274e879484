/- Varints, as plain Lean: the bytes of a number. -/
import Derived.Test.YtgiblnfdadbapaaBits
import Derived.Laws.BytesArg
namespace Go.Proofs.Ytgiblnfdadbapaa
open Go.RowKit

/-- The varint of n, at most f + 1 bytes. -/
def putF : Nat → Int → List Int
  | 0, n => [n]
  | f + 1, n => if n < 128 then [n] else (128 + n % 128) :: putF f (n / 128)
def putL (n : Int) : List Int := putF 9 n
theorem putF_small (f : Nat) (n : Int) (h : n < 128) : putF f n = [n] := by
  cases f with
  | zero => rfl
  | succ f => simp only [putF]; rw [if_pos h]
theorem putF_large (f : Nat) (n : Int) (h : ¬ n < 128) : putF (f + 1) n = (128 + n % 128) :: putF f (n / 128) := by
  simp only [putF]; rw [if_neg h]
theorem putF_length (f : Nat) (n : Int) : (putF f n).length ≤ f + 1 ∧ 0 < (putF f n).length := by
  induction f generalizing n with
  | zero => simp [putF]
  | succ f ih =>
    simp only [putF]
    split
    · simp
    · have := ih (n / 128); simp; omega
theorem or128 : ∀ x : Nat, x < 256 → x ||| 128 = 128 + x % 128 := by decide +kernel
theorem put_byte (m : Int) : bits .or .u8 (m % 256) 128 = 128 + m % 128 := by
  rw [u8_or _ _ (by omega) (by omega) (by decide) (by decide)]
  rw [show (128 : Int).toNat = 128 from rfl, or128 _ (by omega)]
  omega
theorem put_facts (m : Int) (h0 : 0 ≤ m) (h1 : m ≤ 18446744073709551615) : m.tmod 128 = m % 128 ∧ m.tdiv 128 = m / 128 ∧ IntKind.u64.wrap (128 + m % 128) = 128 + m % 128 ∧ IntKind.u8.wrap (128 + m % 128) = 128 + m % 128 ∧ IntKind.u64.wrap (m / 128) = m / 128 := by
  refine ⟨Int.tmod_eq_emod_of_nonneg h0, Int.tdiv_eq_ediv_of_nonneg h0, ?_, ?_, ?_⟩
  · rw [IntKind.wrap_u64]; omega
  · rw [IntKind.wrap_u8]; omega
  · rw [IntKind.wrap_u64]; omega
/-- Room for n in f + 1 groups of seven bits. -/
def fits7 (f : Nat) (n : Int) : Prop := 0 ≤ n ∧ n < 2 ^ (7 * f + 7)
theorem fits7_half {f : Nat} {n : Int} (h : fits7 (f + 1) n) : fits7 f (n / 128) := by
  obtain ⟨h0, h1⟩ := h
  rw [show 7 * (f + 1) + 7 = (7 * f + 7) + 7 by omega, Int.pow_add] at h1
  refine ⟨by omega, ?_⟩
  have : (2 : Int) ^ 7 = 128 := rfl
  omega
theorem fits7_zero {n : Int} (h : fits7 0 n) : n < 128 := h.2
theorem fits7_top {n : Int} (h0 : 0 ≤ n) (h1 : n ≤ 18446744073709551615) : fits7 9 n := ⟨h0, Int.lt_of_le_of_lt h1 (by decide)⟩
end Go.Proofs.Ytgiblnfdadbapaa
