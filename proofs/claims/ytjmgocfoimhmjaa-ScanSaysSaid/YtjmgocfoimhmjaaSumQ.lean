/- CRC-32C: the reference's bit by bit way, and reversed numbers: plain. -/
import Derived.Test.YtjmgocfoimhmjaaSumP
import Derived.Test.YtjmgocfoimhmjaaFlipP
namespace Go.Proofs.Ytjmgocfoimhmjaa
open Go.RowKit

theorem flipTo_bit (n : Nat) : ∀ (k i : Nat), (flipTo n k).testBit i = (decide (i < k) && n.testBit (k - 1 - i))
  | 0, i => by simp [flipTo]
  | k + 1, 0 => by
    rw [Nat.testBit_zero, flipTo, show (flipTo n k * 2 + n / 2 ^ k % 2) % 2 = n / 2 ^ k % 2 by omega]
    simp [Nat.testBit_eq_decide_div_mod_eq]
  | k + 1, i + 1 => by
    rw [Nat.testBit_succ, flipTo, show (flipTo n k * 2 + n / 2 ^ k % 2) / 2 = flipTo n k by omega, flipTo_bit n k i]
    by_cases h : i < k
    · simp [h, show k - (i + 1) = k - 1 - i by omega]
    · simp [h]
theorem flip_turn (c : W32) : flip c.toNat 32 = (turn c).toNat := by
  show flipTo c.toNat 32 = _
  apply Nat.eq_of_testBit_eq
  intro i
  rw [flipTo_bit, ← BitVec.getLsbD, ← BitVec.getLsbD]
  by_cases h : i < 32
  · rw [turn_bit _ _ h]; simp [h]
  · rw [BitVec.getLsbD_of_ge (turn c) i (by omega)]; simp [h]

def bitk (b : W32) (k : Nat) : W32 := (b >>> k) &&& 1#32
def refC (c b : W32) : Nat → W32
  | 0 => c
  | k + 1 => crcStep (refC c b k ^^^ bitk b k)
theorem step_even (c : W32) (h : c.getLsbD 0 = false) : crcStep c = c >>> 1 := by unfold crcStep; rw [h]; rfl
theorem one_bit (i : Nat) : (1#32 : W32).getLsbD i = decide (i = 0) := by simp [BitVec.getLsbD_one]
theorem refC_steps (c b : W32) (k : Nat) : refC c b k ^^^ (b >>> k) = crcSteps k (c ^^^ b) := by
  induction k with
  | zero => simp [refC, crcSteps]
  | succ k ih =>
    have e1 : (b >>> k) = bitk b k ^^^ ((b >>> k) &&& 0xfffffffe#32) := by
      apply BitVec.eq_of_getLsbD_eq
      intro i hi
      have : ∀ i : Nat, i < 32 → (0xfffffffe#32 : W32).getLsbD i = !(1#32 : W32).getLsbD i := by decide
      simp only [bitk, BitVec.getLsbD_xor, BitVec.getLsbD_and, this i hi]
      cases (b >>> k).getLsbD i <;> cases (1#32 : W32).getLsbD i <;> rfl
    have e2 : crcStep ((b >>> k) &&& 0xfffffffe#32) = b >>> (k + 1) := by
      rw [step_even _ (by rw [BitVec.getLsbD_and]; simp), BitVec.shiftRight_add]
      apply BitVec.eq_of_getLsbD_eq
      intro i hi
      rw [BitVec.getLsbD_ushiftRight, BitVec.getLsbD_ushiftRight, BitVec.getLsbD_and]
      by_cases h : 1 + i < 32
      · have : ∀ i : Nat, i < 31 → (0xfffffffe#32 : W32).getLsbD (1 + i) = true := by decide
        rw [this i (by omega), Bool.and_true]
      · rw [BitVec.getLsbD_of_ge (b >>> k) _ (by omega), Bool.false_and]
    simp only [crcSteps, refC, ← ih]
    rw [← e2, ← step_xor]
    congr 1
    conv => rhs; rw [e1]
    rw [BitVec.xor_assoc]
theorem refC_byte (c b : W32) (h : b.toNat < 256) : refC c b 8 = byteIn c b := by
  have h1 := refC_steps c b 8
  have h2 : b >>> 8 = 0#32 := by
    apply BitVec.eq_of_toNat_eq
    rw [BitVec.toNat_ushiftRight, Nat.shiftRight_eq_div_pow]
    simp; omega
  rw [h2, BitVec.xor_zero] at h1
  rw [h1]; rfl
/-- The reference's 'bit << 31', read from the other end. -/
theorem turn_one (b : W32) (k : Nat) : bitk b k <<< 31 = turn (bitk b k) := by
  apply BitVec.eq_of_getLsbD_eq
  intro i hi
  rw [turn_bit _ _ hi, BitVec.getLsbD_shiftLeft]
  simp only [bitk, BitVec.getLsbD_and, one_bit]
  by_cases h : i = 31
  · subst h; simp
  · have : ¬ 31 - i = 0 := by omega
    simp [this, hi]; omega
end Go.Proofs.Ytjmgocfoimhmjaa
