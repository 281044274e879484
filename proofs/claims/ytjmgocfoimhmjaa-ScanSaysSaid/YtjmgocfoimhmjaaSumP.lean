/- CRC-32C: the step from the lowest bit, the reference's from the highest, and that they agree: plain bit vectors. -/
import Derived.Test.YtjmgocfoimhmjaaBits
namespace Go.Proofs.Ytjmgocfoimhmjaa
open Go.RowKit

abbrev W32 := BitVec 32
def crcP : W32 := 0x82f63b78#32
def crcQ : W32 := 0x1edc6f41#32
/-- One step: right by one bit. -/
def crcStep (c : W32) : W32 := if c.getLsbD 0 then (c >>> 1) ^^^ crcP else c >>> 1
def crcSteps : Nat → W32 → W32
  | 0, c => c
  | k + 1, c => crcStep (crcSteps k c)
/-- The reference's step: left by one bit. -/
def crcTimes (c : W32) : W32 := if c.getLsbD 31 then (c <<< 1) ^^^ crcQ else c <<< 1
def turn (c : W32) : W32 := c.reverse

theorem step_bit (c : W32) (i : Nat) (h : i < 32) : (crcStep c).getLsbD i = (c.getLsbD (i + 1) ^^ (c.getLsbD 0 && crcP.getLsbD i)) := by
  unfold crcStep
  cases hc : c.getLsbD 0
  · simp [BitVec.getLsbD_ushiftRight, Nat.add_comm]
  · simp [BitVec.getLsbD_ushiftRight, Nat.add_comm]
theorem step_xor (a b : W32) : crcStep (a ^^^ b) = crcStep a ^^^ crcStep b := by
  apply BitVec.eq_of_getLsbD_eq
  intro i hi
  rw [BitVec.getLsbD_xor, step_bit _ _ hi, step_bit _ _ hi, step_bit _ _ hi, BitVec.getLsbD_xor, BitVec.getLsbD_xor]
  cases a.getLsbD (i + 1) <;> cases b.getLsbD (i + 1) <;> cases a.getLsbD 0 <;> cases b.getLsbD 0 <;> cases crcP.getLsbD i <;> rfl
theorem steps_xor (k : Nat) (a b : W32) : crcSteps k (a ^^^ b) = crcSteps k a ^^^ crcSteps k b := by
  induction k with
  | zero => rfl
  | succ k ih => simp only [crcSteps, ih, step_xor]
theorem steps_add (k : Nat) (c : W32) : crcSteps k (crcStep c) = crcStep (crcSteps k c) := by
  induction k with
  | zero => rfl
  | succ k ih => simp only [crcSteps, ih]
theorem pq : ∀ i : Nat, i < 32 → crcQ.getLsbD i = crcP.getLsbD (31 - i) := by decide
theorem turn_bit (c : W32) (i : Nat) (h : i < 32) : (turn c).getLsbD i = c.getLsbD (31 - i) := by
  unfold turn
  rw [BitVec.getLsbD_reverse, BitVec.getMsbD_eq_getLsbD]
  simp [h]
/-- The two steps are one, read from the two ends. -/
theorem turn_step (c : W32) : turn (crcStep c) = crcTimes (turn c) := by
  apply BitVec.eq_of_getLsbD_eq
  intro i hi
  rw [turn_bit _ _ hi, step_bit _ _ (by omega)]
  have h31 : (turn c).getLsbD 31 = c.getLsbD 0 := by rw [turn_bit _ _ (by omega)]
  unfold crcTimes
  rw [h31]
  have hs : ((turn c) <<< 1).getLsbD i = c.getLsbD (31 - i + 1) := by
    rw [BitVec.getLsbD_shiftLeft]
    by_cases h0 : i = 0
    · subst h0; simp
    · rw [turn_bit _ _ (by omega), show 31 - (i - 1) = 31 - i + 1 by omega]
      simp [hi]; omega
  cases hc : c.getLsbD 0
  · simp [hs]
  · simp [hs, pq i hi]
theorem turn_turn (c : W32) : turn (turn c) = c := by
  apply BitVec.eq_of_getLsbD_eq
  intro i hi
  rw [turn_bit _ _ hi, turn_bit _ _ (by omega), show 31 - (31 - i) = i by omega]
theorem turn_xor (a b : W32) : turn (a ^^^ b) = turn a ^^^ turn b := by
  apply BitVec.eq_of_getLsbD_eq
  intro i hi
  rw [turn_bit _ _ hi, BitVec.getLsbD_xor, BitVec.getLsbD_xor, turn_bit _ _ hi, turn_bit _ _ hi]
/-- Eight steps of what has no low byte: right by eight bits. -/
theorem steps_high (k : Nat) (hk : k ≤ 8) (c : W32) (h : ∀ i, i < 8 → c.getLsbD i = false) : crcSteps k c = c >>> k := by
  induction k with
  | zero => simp [crcSteps]
  | succ k ih =>
    have := ih (by omega)
    simp only [crcSteps, this]
    unfold crcStep
    have h0 : (c >>> k).getLsbD 0 = false := by rw [BitVec.getLsbD_ushiftRight]; exact h _ (by omega)
    rw [h0]
    simp [BitVec.shiftRight_add]
/-- The table's way: a byte at a time. -/
theorem steps8 (c : W32) : crcSteps 8 c = (c >>> 8) ^^^ crcSteps 8 (c &&& 0xff#32) := by
  have e : c = (c &&& 0xffffff00#32) ^^^ (c &&& 0xff#32) := by
    apply BitVec.eq_of_getLsbD_eq
    intro i hi
    have : ∀ i : Nat, i < 32 → (0xffffff00#32 : W32).getLsbD i = !(0xff#32 : W32).getLsbD i := by decide
    simp only [BitVec.getLsbD_xor, BitVec.getLsbD_and, this i hi]
    cases c.getLsbD i <;> cases (0xff#32 : W32).getLsbD i <;> rfl
  have hlow : ∀ i, i < 8 → (c &&& 0xffffff00#32).getLsbD i = false := by
    intro i hi
    have : ∀ i : Nat, i < 8 → (0xffffff00#32 : W32).getLsbD i = false := by decide
    rw [BitVec.getLsbD_and, this i hi, Bool.and_false]
  have hsh : (c &&& 0xffffff00#32) >>> 8 = c >>> 8 := by
    apply BitVec.eq_of_getLsbD_eq
    intro i hi
    have : ∀ i : Nat, i < 24 → (0xffffff00#32 : W32).getLsbD (8 + i) = true := by decide
    rw [BitVec.getLsbD_ushiftRight, BitVec.getLsbD_ushiftRight, BitVec.getLsbD_and]
    by_cases h : i < 24
    · rw [this i h, Bool.and_true]
    · rw [BitVec.getLsbD_of_ge _ _ (by omega), Bool.false_and]
  conv => lhs; rw [e]
  rw [steps_xor, steps_high 8 (Nat.le_refl _) _ hlow, hsh]

/-- A byte in, from the low end. -/
def byteIn (c : W32) (b : W32) : W32 := crcSteps 8 (c ^^^ b)
/-- The bytes f 0 .. f (k - 1) in. -/
def crcOver (f : Nat → W32) (c : W32) : Nat → W32
  | 0 => c
  | k + 1 => byteIn (crcOver f c k) (f k)
/-- P6: More. -/
def crcMore (f : Nat → W32) (c : W32) (n : Nat) : W32 := ~~~ (crcOver f (~~~ c) n)
end Go.Proofs.Ytjmgocfoimhmjaa
