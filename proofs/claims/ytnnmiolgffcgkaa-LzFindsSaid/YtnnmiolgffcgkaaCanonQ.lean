/- Canonical codes: the answer, and the reference's sum: plain lists. -/
import Derived.Test.YtnnmiolgffcgkaaCanonP
import Derived.Test.YtnnmiolgffcgkaaCostP
namespace Go.Proofs.Ytnnmiolgffcgkaa
open Go.RowKit

def codeAt (l : List Int) (i : Nat) (w : Int) : Int := if 0 < w then lowW w l + cntW w (l.take i) else 0
def canL (l : List Int) : Nat → List Int
  | 0 => []
  | k + 1 => canL l k ++ [codeAt l k (l.getD k 0)]
theorem canL_succ {l : List Int} {k : Nat} {x : Int} (h : l[k]? = some x) : canL l (k + 1) = canL l k ++ [codeAt l k x] := by
  simp [canL, List.getD_eq_getElem?_getD, h]
theorem canL_length (l : List Int) (k : Nat) : (canL l k).length = k := by
  induction k with
  | zero => rfl
  | succ k ih => simp [canL, ih]
def canE (l : List Int) : Int := if fillE l ≠ 0 then fillE l else if 32768 < fillV l then 6 else 0
def canX (l : List Int) : List Int := if canE l = 0 then canL l l.length else []
theorem can_fill {l : List Int} (h : fillE l ≠ 0) : canE l = fillE l ∧ canX l = [] := by
  have e : canE l = fillE l := by unfold canE; rw [if_pos h]
  exact ⟨e, by unfold canX; rw [e, if_neg h]⟩
theorem can_over {l : List Int} (h : fillE l = 0) (h2 : 32768 < fillV l) : canE l = 6 ∧ canX l = [] := by
  have e : canE l = 6 := by unfold canE; rw [if_neg (by simp [h]), if_pos h2]
  exact ⟨e, by unfold canX; rw [e]; rfl⟩
theorem can_ok {l : List Int} (h : fillE l = 0) (h2 : ¬ 32768 < fillV l) : canE l = 0 ∧ canX l = canL l l.length := by
  have e : canE l = 0 := by unfold canE; rw [if_neg (by simp [h]), if_neg h2]
  exact ⟨e, by unfold canX; rw [if_pos e]⟩
/-- The reference's sum, over the first j signs. -/
def ahd (l : List Int) (i : Nat) (w : Int) (j : Nat) : Int := ahdW w (l.take j) + (if 0 < w then 2 ^ (15 - w).toNat * cntW w (l.take (min i j)) else 0)
theorem ahd_zero (l : List Int) (i : Nat) (w : Int) : ahd l i w 0 = 0 := by
  simp [ahd, ahdW, cntW]
theorem ahdW_take (w : Int) {l : List Int} {j : Nat} {v : Int} (h : l[j]? = some v) : ahdW w (l.take (j + 1)) = ahdW w (l.take j) + (if 0 < v ∧ v < w then 2 ^ (15 - v).toNat else 0) := by
  rw [List.take_add_one, h]; simp [ahdW]
theorem ahd_low {l : List Int} {i : Nat} {w : Int} {j : Nat} {v : Int} (h : l[j]? = some v) (h0 : 0 < v) (h1 : v < w) : ahd l i w (j + 1) = ahd l i w j + 2 ^ (15 - v).toNat := by
  unfold ahd
  rw [ahdW_take w h, if_pos ⟨h0, h1⟩]
  have : cntW w (l.take (min i (j + 1))) = cntW w (l.take (min i j)) := by
    by_cases hj : j < i
    · rw [show min i (j + 1) = j + 1 by omega, show min i j = j by omega, cntW_take w l j v h, if_neg (by omega)]; omega
    · rw [show min i (j + 1) = i by omega, show min i j = i by omega]
  rw [this]; omega
theorem ahd_same {l : List Int} {i : Nat} {w : Int} {j : Nat} (h : l[j]? = some w) (h0 : 0 < w) (hj : j < i) : ahd l i w (j + 1) = ahd l i w j + 2 ^ (15 - w).toNat := by
  unfold ahd
  rw [ahdW_take w h, if_neg (by omega), if_pos h0, if_pos h0, show min i (j + 1) = j + 1 by omega, show min i j = j by omega, cntW_take w l j w h, if_pos rfl, Int.mul_add]
  omega
theorem ahd_skip {l : List Int} {i : Nat} {w : Int} {j : Nat} {v : Int} (h : l[j]? = some v) (hn : ¬ (0 < v ∧ (v < w ∨ (v = w ∧ j < i)))) : ahd l i w (j + 1) = ahd l i w j := by
  unfold ahd
  rw [ahdW_take w h, if_neg (by omega)]
  by_cases h0 : 0 < w
  · rw [if_pos h0, if_pos h0]
    by_cases hj : j < i
    · rw [show min i (j + 1) = j + 1 by omega, show min i j = j by omega, cntW_take w l j v h, if_neg (by omega)]; simp
    · rw [show min i (j + 1) = i by omega, show min i j = i by omega]; omega
  · rw [if_neg h0, if_neg h0]; omega
theorem ahd_code {l : List Int} {i : Nat} {w : Int} (hi : i ≤ l.length) (h0 : 0 < w) (h1 : w ≤ 15) : ahd l i w l.length = 2 ^ (15 - w).toNat * codeAt l i w := by
  unfold ahd codeAt
  rw [List.take_length, if_pos h0, if_pos h0, show min i l.length = i by omega, ahdW_low w h1, ← Int.mul_add]
theorem codeAt_nonneg (l : List Int) (i : Nat) (w : Int) : 0 ≤ codeAt l i w := by
  unfold codeAt
  split
  · have := lowW_nonneg w l; have := (cntW_bd w (l.take i)).1; omega
  · omega
theorem pow15 {v : Int} (h0 : 0 ≤ v) (h1 : v ≤ 15) : (1 : Int) ≤ 2 ^ (15 - v).toNat ∧ (2 : Int) ^ (15 - v).toNat ≤ 32768 := by
  have : v = 0 ∨ v = 1 ∨ v = 2 ∨ v = 3 ∨ v = 4 ∨ v = 5 ∨ v = 6 ∨ v = 7 ∨ v = 8 ∨ v = 9 ∨ v = 10 ∨ v = 11 ∨ v = 12 ∨ v = 13 ∨ v = 14 ∨ v = 15 := by omega
  rcases this with rfl | rfl | rfl | rfl | rfl | rfl | rfl | rfl | rfl | rfl | rfl | rfl | rfl | rfl | rfl | rfl <;> decide
theorem div_code {p c : Int} (hp : 1 ≤ p) (hc : 0 ≤ c) : (p * c).tdiv p = c := by
  rw [Int.tdiv_eq_ediv_of_nonneg (Int.mul_nonneg (by omega) hc), Int.mul_ediv_cancel_left _ (by omega)]
end Go.Proofs.Ytnnmiolgffcgkaa
