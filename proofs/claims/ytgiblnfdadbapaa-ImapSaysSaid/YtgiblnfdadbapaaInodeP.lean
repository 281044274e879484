/- Inodes: which are right: plain lists. -/
import Derived.Test.YtgiblnfdadbapaaImapP
import Derived.Test.YtgiblnfdadbapaaFixP
namespace Go.Proofs.Ytgiblnfdadbapaa
open Go.RowKit

def InoRight (xs : List PlaceD) (i : Nat) : Prop := ∃ p, xs[i]? = some p ∧ rightB p.Cell p.Nth = true
def InoWrong (xs : List PlaceD) (i : Nat) : Prop := ∃ p, xs[i]? = some p ∧ rightB p.Cell p.Nth = false
theorem ino_to (xs : List PlaceD) : ∃ J, J ≤ xs.length ∧ (∀ i, i < J → InoRight xs i) ∧ (J < xs.length → InoWrong xs J) :=
  first_to xs.length fun i hi => by
    have e1 := List.getElem?_eq_getElem (l := xs) (i := i) hi
    cases hr : rightB xs[i].Cell xs[i].Nth
    · exact .inr ⟨_, e1, hr⟩
    · exact .inl ⟨_, e1, hr⟩
open Classical in
noncomputable def inoE (k g s : Int) (xs : List PlaceD) : Int :=
  if (k ≠ 1 ∧ k ≠ 2) ∨ g < 0 ∨ 2147483647 < g then 1 else if s < 0 ∨ 4096 < s then 2
  else if (xs.length : Int) = (s + 511) / 512 ∧ ∀ i, i < xs.length → InoRight xs i then 0 else 4
theorem inoE_arg {k g s : Int} {xs : List PlaceD} (h : (k ≠ 1 ∧ k ≠ 2) ∨ g < 0 ∨ 2147483647 < g) : inoE k g s xs = 1 := by unfold inoE; rw [if_pos h]
theorem inoE_large {k g s : Int} {xs : List PlaceD} (h : ¬ ((k ≠ 1 ∧ k ≠ 2) ∨ g < 0 ∨ 2147483647 < g)) (h2 : s < 0 ∨ 4096 < s) : inoE k g s xs = 2 := by unfold inoE; rw [if_neg h, if_pos h2]
theorem inoE_form {k g s : Int} {xs : List PlaceD} (h : ¬ ((k ≠ 1 ∧ k ≠ 2) ∨ g < 0 ∨ 2147483647 < g)) (h2 : ¬ (s < 0 ∨ 4096 < s)) (h3 : ¬ ((xs.length : Int) = (s + 511) / 512 ∧ ∀ i, i < xs.length → InoRight xs i)) : inoE k g s xs = 4 := by
  unfold inoE; rw [if_neg h, if_neg h2, if_neg h3]
theorem inoE_ok {k g s : Int} {xs : List PlaceD} (h : ¬ ((k ≠ 1 ∧ k ≠ 2) ∨ g < 0 ∨ 2147483647 < g)) (h2 : ¬ (s < 0 ∨ 4096 < s)) (h3 : (xs.length : Int) = (s + 511) / 512) (h4 : ∀ i, i < xs.length → InoRight xs i) : inoE k g s xs = 0 := by
  unfold inoE; rw [if_neg h, if_neg h2, if_pos ⟨h3, h4⟩]
theorem inoE_zero {k g s : Int} {xs : List PlaceD} (h : inoE k g s xs = 0) : (k = 1 ∨ k = 2) ∧ 0 ≤ g ∧ g ≤ 2147483647 ∧ 0 ≤ s ∧ s ≤ 4096 ∧ (xs.length : Int) = (s + 511) / 512 ∧ ∀ i, i < xs.length → InoRight xs i := by
  unfold inoE at h
  by_cases a : (k ≠ 1 ∧ k ≠ 2) ∨ g < 0 ∨ 2147483647 < g
  · rw [if_pos a] at h; cases h
  · rw [if_neg a] at h
    by_cases b : s < 0 ∨ 4096 < s
    · rw [if_pos b] at h; cases h
    · rw [if_neg b] at h
      by_cases c : (xs.length : Int) = (s + 511) / 512 ∧ ∀ i, i < xs.length → InoRight xs i
      · exact ⟨by omega, by omega, by omega, by omega, by omega, c.1, c.2⟩
      · rw [if_neg c] at h; cases h
/-- The text. -/
def partsL : List PlaceD → List Int
  | [] => []
  | p :: r => p.Cell :: p.Nth :: partsL r
def inoL (k g s : Int) (xs : List PlaceD) : List Int := fixL 1 k ++ fixL 4 g ++ fixL 2 s ++ partsL xs
theorem partsL_append (a b : List PlaceD) : partsL (a ++ b) = partsL a ++ partsL b := by
  induction a with
  | nil => rfl
  | cons p r ih => simp [partsL, ih]
theorem partsL_take (xs : List PlaceD) (k : Nat) (p : PlaceD) (h : xs[k]? = some p) : partsL (xs.take (k + 1)) = partsL (xs.take k) ++ [p.Cell, p.Nth] := by
  rw [List.take_add_one, h, partsL_append]; rfl
theorem partsL_length (xs : List PlaceD) : (partsL xs).length = 2 * xs.length := by
  induction xs with
  | nil => rfl
  | cons p r ih => simp [partsL, ih]; omega
theorem fix1 {c : Int} (h0 : 0 ≤ c) (h1 : c ≤ 255) : fixW 1 c = [c] := by
  unfold fixW; rw [if_pos (by omega)]; simp [fixL]; omega
theorem fix2 {c n : Int} (h0 : 0 ≤ c) (h1 : c ≤ 255) (h2 : 0 ≤ n) (h3 : n ≤ 255) : fixW 2 (c * 256 + n) = [c, n] := by
  unfold fixW; rw [if_pos (by omega)]; simp [fixL]; omega
theorem fixW1 (c : Int) : fixW 1 c = fixL 1 c := by unfold fixW; rw [if_pos (by omega)]; rfl
theorem fixW2 (c : Int) : fixW 2 c = fixL 2 c := by unfold fixW; rw [if_pos (by omega)]; rfl
theorem fixW4 (c : Int) : fixW 4 c = fixL 4 c := by unfold fixW; rw [if_pos (by omega)]; rfl
theorem right_bd {c n : Int} (h : rightB c n = true) : 0 ≤ c ∧ c ≤ 127 ∧ 0 ≤ n ∧ n ≤ 39 := by
  have : Right c n := by simpa [rightB] using h
  unfold Right at this; omega
end Go.Proofs.Ytgiblnfdadbapaa
