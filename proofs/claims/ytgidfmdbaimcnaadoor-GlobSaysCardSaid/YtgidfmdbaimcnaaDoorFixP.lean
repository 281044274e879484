/- Numbers as bytes, the most significant first: plain arithmetic. -/
import Derived.Test.YtgidfmdbaimcnaaDoorBits
namespace Go.Proofs.YtgidfmdbaimcnaaDoor
open Go.RowKit

/-- The lowest k bytes of n, the most significant first. -/
def fixL : Nat → Int → List Int
  | 0, _ => []
  | k + 1, n => n / 256 ^ k % 256 :: fixL k n
theorem fixL_length (k : Nat) (n : Int) : (fixL k n).length = k := by
  induction k with
  | zero => rfl
  | succ k ih => simp [fixL, ih]
theorem fix_set (i : Nat) (L : List Int) (b : Int) : (List.replicate (i + 1) 0 ++ L).set i b = List.replicate i 0 ++ b :: L := by
  rw [List.replicate_succ', List.append_assoc]
  rw [List.set_append_right _ _ (by simp)]
  simp
/-- What fixL of w gives, as Fix takes w. -/
def fixW (w : Int) (n : Int) : List Int := if 1 ≤ w ∧ w ≤ 8 then fixL w.toNat n else []
theorem shr8 (n : Int) (k : Nat) : n / 256 ^ k / 256 = n / 256 ^ (k + 1) := by
  rw [Int.pow_succ, ← Int.ediv_ediv_of_nonneg (Int.le_of_lt (Int.pow_pos (by decide)))]

/-- The number with the bytes f 0 .. f (k - 1), the most significant first. -/
def beF (f : Nat → Int) : Nat → Int
  | 0 => 0
  | k + 1 => beF f k * 256 + f k
theorem pow256 (k : Nat) : (0 : Int) < 256 ^ k := Int.pow_pos (by decide)
theorem beF_bd (f : Nat → Int) (h0 : ∀ j, 0 ≤ f j) (h1 : ∀ j, f j ≤ 255) (k : Nat) : 0 ≤ beF f k ∧ beF f k < 256 ^ k := by
  induction k with
  | zero => simp [beF]
  | succ k ih =>
    have := h0 k
    have := h1 k
    simp only [beF, Int.pow_succ]
    omega
theorem pow256_8 (k : Nat) (h : k ≤ 8) : (256 : Int) ^ k ≤ 18446744073709551616 := by
  have : (256 : Nat) ^ k ≤ 256 ^ 8 := Nat.pow_le_pow_right (by omega) h
  have e : (256 : Nat) ^ 8 = 18446744073709551616 := by decide
  have e2 : ((256 : Int) ^ k) = ((256 ^ k : Nat) : Int) := by simp
  omega
theorem or8 (v b : Int) (h0 : 0 ≤ v) (h1 : v * 256 < 18446744073709551616) (hb0 : 0 ≤ b) (hb1 : b ≤ 255) : bits .or .u64 (IntKind.u64.wrap (v * 256)) b = v * 256 + b := by
  obtain ⟨a, rfl⟩ := Int.eq_ofNat_of_zero_le h0
  obtain ⟨c, rfl⟩ := Int.eq_ofNat_of_zero_le hb0
  rw [IntKind.wrap_u64, show ((a : Int) * 256 % 18446744073709551616) = ((a * 256 : Nat) : Int) by omega, u64_or_nat _ _ (by omega) (by omega), nat_join 8 _ _ (by omega) (by omega)]
  omega
theorem be_step (f : Nat → Int) (h0 : ∀ j, 0 ≤ f j) (h1 : ∀ j, f j ≤ 255) (k : Nat) (v : Int) (hv : v = beF f k) (hk : k < 8) :
    bits .or .u64 (IntKind.u64.wrap (v * 256)) (f k) = beF f (k + 1) := by
  have hb := beF_bd f h0 h1 k
  have hp := pow256_8 (k + 1) (by omega)
  rw [Int.pow_succ] at hp
  rw [hv, or8 _ _ hb.1 (by omega) (h0 k) (h1 k)]
  rfl
/-- The reference's step, from the end: place i holds f i, worth 256 ^ m. -/
theorem worth_step (f : Nat → Int) (h0 : ∀ j, 0 ≤ f j) (h1 : ∀ j, f j ≤ 255) (T n worth : Int) (i m : Nat) (hm : m < 8) (hw : worth = 256 ^ m % 18446744073709551616)
    (hn0 : 0 ≤ n) (hn1 : n < 256 ^ m) (hT : beF f (i + 1) * 256 ^ m + n = T) :
    IntKind.u64.wrap (n + IntKind.u64.wrap (f i * worth)) = n + f i * 256 ^ m ∧ beF f i * 256 ^ (m + 1) + (n + f i * 256 ^ m) = T ∧
      0 ≤ n + f i * 256 ^ m ∧ n + f i * 256 ^ m < 256 ^ (m + 1) ∧ IntKind.u64.wrap (worth * 256) = 256 ^ (m + 1) % 18446744073709551616 := by
  have hp := pow256 m
  have hp7 : (256 : Int) ^ m ≤ 72057594037927936 := by
    have h : (256 : Nat) ^ m ≤ 256 ^ 7 := Nat.pow_le_pow_right (by omega) (by omega)
    have e : (256 : Nat) ^ 7 = 72057594037927936 := by decide
    have e2 : ((256 : Int) ^ m) = ((256 ^ m : Nat) : Int) := by simp
    omega
  have a0 := h0 i
  have a1 := h1 i
  have e1 : worth = 256 ^ m := by rw [hw]; omega
  have x0 : 0 ≤ f i * 256 ^ m := Int.mul_nonneg a0 (by omega)
  have x1 : f i * 256 ^ m ≤ 255 * 256 ^ m := Int.mul_le_mul_of_nonneg_right a1 (by omega)
  have e3 : beF f (i + 1) = beF f i * 256 + f i := rfl
  rw [e1]
  rw [IntKind.wrap_u64, IntKind.wrap_u64, IntKind.wrap_u64, Int.pow_succ]
  refine ⟨?_, ?_, by omega, by omega, rfl⟩
  · omega
  · rw [← hT, e3, Int.add_mul, Int.mul_comm (256 ^ m) 256, ← Int.mul_assoc]
    omega
end Go.Proofs.YtgidfmdbaimcnaaDoor
