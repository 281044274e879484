/- Canonical codes: what each length's first code is, and each sign's: plain lists. -/
import Derived.Test.YtnnmiolgffcgkaaFillP
namespace Go.Proofs.Ytnnmiolgffcgkaa
open Go.RowKit

/-- What the shorter lengths take, in codes of w bits. -/
def lowW (w : Int) (l : List Int) : Int := (l.map fun x => if 0 < x ∧ x < w then 2 ^ (w - x).toNat else 0).sum
def cntW (w : Int) (l : List Int) : Int := (l.map fun x => if x = w then 1 else 0).sum
/-- What the shorter lengths take, and those of length w. -/
def ahdW (w : Int) (l : List Int) : Int := (l.map fun x => if 0 < x ∧ x < w then 2 ^ (15 - x).toNat else 0).sum
theorem lowW_cons (w a : Int) (l : List Int) : lowW w (a :: l) = (if 0 < a ∧ a < w then 2 ^ (w - a).toNat else 0) + lowW w l := by simp [lowW]
theorem cntW_cons (w a : Int) (l : List Int) : cntW w (a :: l) = (if a = w then 1 else 0) + cntW w l := by simp [cntW]
theorem ahdW_cons (w a : Int) (l : List Int) : ahdW w (a :: l) = (if 0 < a ∧ a < w then 2 ^ (15 - a).toNat else 0) + ahdW w l := by simp [ahdW]
theorem cntW_take (w : Int) (l : List Int) (k : Nat) (x : Int) (h : l[k]? = some x) : cntW w (l.take (k + 1)) = cntW w (l.take k) + if x = w then 1 else 0 := by
  rw [List.take_add_one, h]; simp [cntW]
theorem cntW_bd (w : Int) (l : List Int) : 0 ≤ cntW w l ∧ cntW w l ≤ l.length := by
  induction l with
  | nil => simp [cntW]
  | cons a l ih => rw [cntW_cons, List.length_cons]; split <;> omega
theorem lowW_one (l : List Int) : lowW 1 l = 0 := by
  induction l with
  | nil => rfl
  | cons a l ih => rw [lowW_cons, ih, if_neg (by omega)]; rfl
theorem pow_up {a w : Int} (h : a < w + 1) (h' : ¬ a = w) : (2 : Int) ^ (w + 1 - a).toNat = 2 * 2 ^ (w - a).toNat := by
  rw [show (w + 1 - a).toNat = (w - a).toNat + 1 by omega, Int.pow_succ]; omega
theorem lowW_succ (w : Int) (hw : 0 < w) (l : List Int) : lowW (w + 1) l = 2 * (lowW w l + cntW w l) := by
  induction l with
  | nil => rfl
  | cons a l ih =>
    rw [lowW_cons, lowW_cons, cntW_cons, ih]
    by_cases h : a = w
    · subst h
      rw [if_pos (by omega), if_neg (by omega), if_pos rfl, show (a + 1 - a).toNat = 1 by omega]
      omega
    · rw [if_neg h]
      by_cases h1 : 0 < a ∧ a < w
      · rw [if_pos (by omega), if_pos h1, pow_up (by omega) h]
        omega
      · rw [if_neg (by omega), if_neg h1]
        omega
theorem pow_split {a w : Int} (h : a < w) (hw : w ≤ 15) : (2 : Int) ^ (15 - a).toNat = 2 ^ (15 - w).toNat * 2 ^ (w - a).toNat := by
  rw [← Int.pow_add]; congr 1; omega
theorem ahdW_low (w : Int) (hw : w ≤ 15) (l : List Int) : ahdW w l = 2 ^ (15 - w).toNat * lowW w l := by
  induction l with
  | nil => simp [ahdW, lowW]
  | cons a l ih =>
    rw [ahdW_cons, lowW_cons, ih, Int.mul_add]
    by_cases h1 : 0 < a ∧ a < w
    · rw [if_pos h1, if_pos h1, pow_split h1.2 hw]
    · rw [if_neg h1, if_neg h1]; simp
theorem lowW_nonneg (w : Int) (l : List Int) : 0 ≤ lowW w l := by
  induction l with
  | nil => simp [lowW]
  | cons a l ih =>
    rw [lowW_cons]
    have : (0 : Int) < 2 ^ (w - a).toNat := Int.pow_pos (by decide)
    split <;> omega
/-- The Kraft sum bounds what the lengths up to w take. -/
theorem low_kraft (w : Int) (hw0 : 0 < w) (hw : w ≤ 15) (l : List Int) (hl : ∀ x ∈ l, 0 ≤ x ∧ x ≤ 15) : 2 ^ (15 - w).toNat * (lowW w l + cntW w l) ≤ fsum l := by
  induction l with
  | nil => simp [lowW, cntW, fsum]
  | cons a l ih =>
    have h1 := ih (fun x hx => hl x (by simp [hx]))
    have h2 := hl a (by simp)
    have h3 := pw_bd h2.1 h2.2
    have hf : fsum (a :: l) = pw a + fsum l := by simp [fsum]
    rw [lowW_cons, cntW_cons, hf]
    have key : (2 : Int) ^ (15 - w).toNat * ((if 0 < a ∧ a < w then 2 ^ (w - a).toNat else 0) + (if a = w then 1 else 0)) ≤ pw a := by
      by_cases ha : 0 < a ∧ a < w
      · rw [if_pos ha, if_neg (by omega), Int.add_zero, ← pow_split ha.2 hw]
        unfold pw; rw [if_pos ha.1]; exact Int.le_refl _
      · rw [if_neg ha]
        by_cases e : a = w
        · subst e
          rw [if_pos rfl]; unfold pw; rw [if_pos hw0]; simp
        · rw [if_neg e]; simpa using h3.1
    rw [show ∀ p q r s : Int, p + q + (r + s) = (p + r) + (q + s) from fun p q r s => by omega, Int.mul_add]
    omega
end Go.Proofs.Ytnnmiolgffcgkaa
