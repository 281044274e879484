/- What a flip takes: plain. -/
import Derived.Test.YtjmgocfoimhmjaaFlipP
import Derived.Test.YtjmgocfoimhmjaaKit
import Derived.WalkSpells
import Derived.Lib.Hide
import Derived.WalkLawsBesides
namespace Go.Proofs.Ytjmgocfoimhmjaa
open Go.RowKit

theorem ret_int {k : IntKind} {a b : Int} (h : a = b) : Ending.returned (.int k a) = .returned (.int k b) := by rw [h]
theorem clamp_cases (a : Int) : (a ≤ 0 ∧ clamp a ≤ 0) ∨ (0 < a ∧ a < 64 ∧ (clamp a : Int) ≤ a ∧ a ≤ (clamp a : Int)) ∨ (64 ≤ a ∧ clamp a ≤ 64 ∧ 64 ≤ clamp a) := by
  unfold clamp; split
  · omega
  · split <;> omega

theorem flip_step (n k q t : Nat) (hk : k < 64) (hn : n < 18446744073709551616) (hq : q = n / 2 ^ k) (ht : t = flipTo n k) :
    bits .or .u64 (IntKind.u64.wrap ((t : Int) * 2)) (bits .and .u64 (q : Int) 1) = ((t * 2 + q % 2 : Nat) : Int) := by
  have h1 := flipTo_lt n k
  have h2 : 2 ^ k ≤ 2 ^ 63 := Nat.pow_le_pow_right (by omega) (by omega)
  have h3 : n / 2 ^ k ≤ n := Nat.div_le_self _ _
  rw [← ht] at h1
  rw [← hq] at h3
  clear hq ht
  have h4 : t < 2 ^ 63 := by omega
  rw [and_one_u64 _ (by omega) (by omega), IntKind.wrap_u64]
  have e1 : (t : Int) * 2 % 18446744073709551616 = ((t * 2 : Nat) : Int) := by omega
  have e2 : (q : Int) % 2 = ((q % 2 : Nat) : Int) := by omega
  rw [e1, e2, u64_or_nat _ _ (by omega) (by omega), nat_join 1 _ _ (by omega) (by omega)]

theorem half_step (n k q : Nat) (hq : q = n / 2 ^ k) : q / 2 = n / 2 ^ (k + 1) := by
  rw [Nat.pow_succ, ← Nat.div_div_eq_div_mul, hq]
theorem ret_nat {k : IntKind} {a : Int} {b : Nat} (h : a = (b : Int)) : (Value.int k a) = .int k (b : Int) := by rw [h]

theorem clamp_cases2 (a : Int) : (a < 0 ∧ clamp a ≤ 0) ∨ (0 ≤ a ∧ a ≤ 64 ∧ (clamp a : Int) ≤ a ∧ a ≤ (clamp a : Int)) ∨ (64 < a ∧ clamp a ≤ 64 ∧ 64 ≤ clamp a) := by
  unfold clamp; split
  · omega
  · split <;> omega

theorem bit_is (n k : Nat) (hn : n < 18446744073709551616) : bits .and .u64 ((n : Int) / 2 ^ k) 1 = ((n / 2 ^ k % 2 : Nat) : Int) := by
  have h3 : n / 2 ^ k ≤ n := Nat.div_le_self _ _
  have e2 : ((n : Int) / 2 ^ k) = ((n / 2 ^ k : Nat) : Int) := by simp
  rw [e2]
  generalize n / 2 ^ k = q at *
  rw [and_one_u64 _ (by omega) (by omega)]
  omega
theorem bit_of (n k b : Nat) (hn : n < 18446744073709551616) (h : bits .and .u64 ((n : Int) / 2 ^ k) 1 = (b : Int)) : n / 2 ^ k % 2 = b := by
  rw [bit_is n k hn] at h
  omega
theorem flipr_yes (n k t E C : Nat) (ht : t = flipTo n k * 2 ^ (C - k)) (hE : C - k = E + 1) (hk : k < C) (hC : C ≤ 64) (hn : n < 18446744073709551616) (hb : (bits .and .u64 ((n : Int) / 2 ^ k) 1 == 1) = true) :
    bits .or .u64 (t : Int) (IntKind.u64.wrap (2 ^ E)) = ((t + 2 ^ E : Nat) : Int) ∧ t + 2 ^ E = flipTo n (k + 1) * 2 ^ (C - (k + 1)) := by
  have h1 := flipTo_lt n k
  have hC' : 2 ^ k * 2 ^ (C - k) ≤ 2 ^ 64 := by
    rw [← Nat.pow_add]; exact Nat.pow_le_pow_right (by omega) (by omega)
  have h2 : flipTo n k * 2 ^ (C - k) + 2 ^ (C - k) ≤ 2 ^ k * 2 ^ (C - k) := by
    rw [← Nat.succ_mul]; exact Nat.mul_le_mul_right _ h1
  have h5 : 2 ^ (C - k) = 2 * 2 ^ E := by rw [hE, Nat.pow_succ, Nat.mul_comm]
  have hlt : 2 ^ E < 18446744073709551616 := by
    have : 0 < 2 ^ E := Nat.two_pow_pos E
    omega
  have e1 : IntKind.u64.wrap (2 ^ E) = ((2 ^ E : Nat) : Int) := by
    rw [IntKind.wrap_u64]
    have : ((2 : Int) ^ E) = ((2 ^ E : Nat) : Int) := by simp
    rw [this]; omega
  have h4 := bit_of n k 1 hn (by simpa using hb)
  have hsum : t + 2 ^ E = flipTo n (k + 1) * 2 ^ (C - (k + 1)) := by
    simp only [flipTo]
    rw [h4, show C - (k + 1) = E by omega, ht, h5, Nat.add_mul]
    rw [show flipTo n k * (2 * 2 ^ E) = flipTo n k * 2 * 2 ^ E by rw [Nat.mul_assoc]]; omega
  refine ⟨?_, hsum⟩
  have htl : t < 18446744073709551616 := by
    have : 0 < 2 ^ E := Nat.two_pow_pos E
    omega
  rw [e1, u64_or_nat _ _ htl hlt, nat_join (E + 1) t (2 ^ E) (by rw [ht, hE]; exact Nat.mul_mod_left _ _) (by rw [Nat.pow_succ]; have := Nat.two_pow_pos E; omega)]
theorem flipr_no (n k t C : Nat) (ht : t = flipTo n k * 2 ^ (C - k)) (hk : k < C) (hn : n < 18446744073709551616) (hb : (bits .and .u64 ((n : Int) / 2 ^ k) 1 == 1) = false) :
    t = flipTo n (k + 1) * 2 ^ (C - (k + 1)) := by
  have h4 : n / 2 ^ k % 2 = 0 := by
    rcases (show n / 2 ^ k % 2 = 0 ∨ n / 2 ^ k % 2 = 1 by omega) with h | h
    · exact h
    · rw [bit_is n k hn, h] at hb; simp at hb
  simp only [flipTo]
  rw [h4, ht, show C - k = (C - (k + 1)) + 1 by omega, Nat.pow_succ, Nat.mul_comm _ 2, ← Nat.mul_assoc]; simp
end Go.Proofs.Ytjmgocfoimhmjaa
