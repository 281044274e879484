/- The lowest w bits of a number, reversed: plain arithmetic. -/
import Derived.Test.YtnnmiolgffcgkaaBits
namespace Go.Proofs.Ytnnmiolgffcgkaa
open Go.RowKit

/-- The lowest k bits of n, the lowest first read as the highest. -/
def flipTo (n : Nat) : Nat → Nat
  | 0 => 0
  | k + 1 => flipTo n k * 2 + n / 2 ^ k % 2
theorem flipTo_lt (n k : Nat) : flipTo n k < 2 ^ k := by
  induction k with
  | zero => simp [flipTo]
  | succ k ih => simp only [flipTo, Nat.pow_succ]; omega
/-- w as Flip takes it. -/
def clamp (w : Int) : Nat := if w < 0 then 0 else if 64 < w then 64 else w.toNat
theorem clamp_le (w : Int) : clamp w ≤ 64 := by unfold clamp; split; omega; split <;> omega
def flip (n : Nat) (w : Int) : Nat := flipTo n (clamp w)
end Go.Proofs.Ytnnmiolgffcgkaa
