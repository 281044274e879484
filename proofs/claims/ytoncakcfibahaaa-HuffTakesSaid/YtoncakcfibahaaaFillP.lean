/- The Kraft sum of lengths, as plain Lean. -/
import Derived.Test.YtoncakcfibahaaaBits
namespace Go.Proofs.Ytoncakcfibahaaa
open Go.RowKit

/-- What a length takes: 2 to the power 15 - x. -/
def pw (x : Int) : Int := if 0 < x then 2 ^ (15 - x).toNat else 0
def fsum (l : List Int) : Int := (l.map pw).sum
def okLen (x : Int) : Bool := decide (0 ≤ x) && decide (x ≤ 15)
def fillE (l : List Int) : Int := if 320 < l.length then 2 else if l.all okLen then 0 else 1
def fillV (l : List Int) : Int := if 320 < l.length then 0 else if l.all okLen then fsum l else 0

theorem pw_bd {x : Int} (h1 : 0 ≤ x) (h2 : x ≤ 15) : 0 ≤ pw x ∧ pw x ≤ 16384 := by
  unfold pw
  split
  · have : x = 1 ∨ x = 2 ∨ x = 3 ∨ x = 4 ∨ x = 5 ∨ x = 6 ∨ x = 7 ∨ x = 8 ∨ x = 9 ∨ x = 10 ∨ x = 11 ∨ x = 12 ∨ x = 13 ∨ x = 14 ∨ x = 15 := by omega
    rcases this with rfl | rfl | rfl | rfl | rfl | rfl | rfl | rfl | rfl | rfl | rfl | rfl | rfl | rfl | rfl <;> decide
  · decide
theorem fsum_append (a b : List Int) : fsum (a ++ b) = fsum a + fsum b := by simp [fsum]
theorem fsum_take (l : List Int) (k : Nat) (x : Int) (h : l[k]? = some x) : fsum (l.take (k + 1)) = fsum (l.take k) + pw x := by
  rw [List.take_add_one, h, fsum_append]; simp [fsum]
theorem fsum_bd (l : List Int) (h : ∀ x ∈ l, 0 ≤ x ∧ x ≤ 15) : 0 ≤ fsum l ∧ fsum l ≤ 16384 * l.length := by
  induction l with
  | nil => simp [fsum]
  | cons a l ih =>
    have h1 := ih (fun x hx => h x (by simp [hx]))
    have h2 := h a (by simp)
    have h3 := pw_bd h2.1 h2.2
    simp only [fsum, List.map_cons, List.sum_cons, List.length_cons] at *
    omega
theorem okLen_iff (x : Int) : okLen x = true ↔ 0 ≤ x ∧ x ≤ 15 := by simp [okLen]
/-- Either all lengths are right, or there is a first one that is not. -/
theorem first_bad (l : List Int) : (∀ x ∈ l, 0 ≤ x ∧ x ≤ 15) ∨ ∃ (j : Nat) (x : Int), l[j]? = some x ∧ (x < 0 ∨ 15 < x) ∧ ∀ (i : Nat) (y : Int), i < j → l[i]? = some y → 0 ≤ y ∧ y ≤ 15 := by
  induction l with
  | nil => left; simp
  | cons a l ih =>
    by_cases ha : 0 ≤ a ∧ a ≤ 15
    · rcases ih with h | ⟨j, x, h1, h2, h3⟩
      · left; intro x hx; rcases List.mem_cons.1 hx with rfl | hx
        · exact ha
        · exact h x hx
      · right
        refine ⟨j + 1, x, by simpa using h1, h2, fun i y hi hy => ?_⟩
        cases i with
        | zero => simp at hy; subst hy; exact ha
        | succ i => exact h3 i y (by omega) (by simpa using hy)
    · right; exact ⟨0, a, rfl, by omega, fun i y hi => by omega⟩
theorem fill_large {l : List Int} (h : 320 < l.length) : fillV l = 0 ∧ fillE l = 2 := by simp [fillV, fillE, h]
theorem fill_ok {l : List Int} (h : l.length ≤ 320) (ha : ∀ x ∈ l, 0 ≤ x ∧ x ≤ 15) : fillV l = fsum l ∧ fillE l = 0 := by
  have : l.all okLen = true := by rw [List.all_eq_true]; intro x hx; exact (okLen_iff x).2 (ha x hx)
  simp only [fillV, fillE, this, if_neg (show ¬ 320 < l.length by omega), if_pos, and_self]
theorem fill_bad {l : List Int} (h : l.length ≤ 320) {j : Nat} {x : Int} (hj : l[j]? = some x) (hx : x < 0 ∨ 15 < x) : fillV l = 0 ∧ fillE l = 1 := by
  have : l.all okLen = false := by
    rw [List.all_eq_false]
    exact ⟨x, List.mem_of_getElem? hj, by rw [okLen_iff]; omega⟩
  simp [fillV, fillE, this, if_neg (show ¬ 320 < l.length by omega)]
/-- The sum, one step: as the walk writes it. -/
theorem pw_step (s x : Int) (h1 : 0 < x) (h2 : x ≤ 15) (h3 : 0 ≤ s) (h4 : s ≤ 16384 * 320) : wrap64 (s + wrap64 (2 ^ (15 - x).toNat)) = s + pw x := by
  have := pw_bd (Int.le_of_lt h1) h2
  have e : pw x = 2 ^ (15 - x).toNat := by unfold pw; rw [if_pos h1]
  rw [← e]
  unfold wrap64
  omega

/-- What the lengths above w take: the reference's sum, level by level. -/
def fabove (w : Int) (l : List Int) : Int := (l.map fun x => if w < x then pw x else 0).sum
def fat (w : Int) (l : List Int) : Int := (l.map fun x => if x = w then pw x else 0).sum
theorem fabove_top (l : List Int) (h : ∀ x ∈ l, 0 ≤ x ∧ x ≤ 15) : fabove 15 l = 0 := by
  induction l with
  | nil => rfl
  | cons a l ih =>
    have h1 := ih (fun x hx => h x (by simp [hx]))
    have h2 := (h a (by simp)).2
    simp only [fabove, List.map_cons, List.sum_cons] at *
    rw [if_neg (by omega), h1]; rfl
theorem fabove_low (l : List Int) (h : ∀ x ∈ l, 0 ≤ x ∧ x ≤ 15) : fabove (-1) l = fsum l := by
  induction l with
  | nil => rfl
  | cons a l ih =>
    have h1 := ih (fun x hx => h x (by simp [hx]))
    have h2 := (h a (by simp)).1
    simp only [fabove, fsum, List.map_cons, List.sum_cons] at *
    rw [if_pos (by omega), h1]
theorem fabove_step (l : List Int) (w : Int) : fabove (w - 1) l = fabove w l + fat w l := by
  induction l with
  | nil => rfl
  | cons a l ih =>
    simp only [fabove, fat, List.map_cons, List.sum_cons] at *
    rw [ih]
    by_cases h1 : a = w
    · subst h1; rw [if_pos (by omega), if_neg (by omega), if_pos rfl]; omega
    · by_cases h2 : w < a
      · rw [if_pos (by omega), if_pos h2, if_neg h1]; omega
      · rw [if_neg (by omega), if_neg h2, if_neg h1]; omega
theorem fat_take (w : Int) (l : List Int) (k : Nat) (x : Int) (h : l[k]? = some x) : fat w (l.take (k + 1)) = fat w (l.take k) + if x = w then pw x else 0 := by
  rw [List.take_add_one, h]; simp [fat]
theorem fat_bd (w : Int) (l : List Int) (h : ∀ x ∈ l, 0 ≤ x ∧ x ≤ 15) : 0 ≤ fat w l ∧ fat w l ≤ 16384 * l.length := by
  induction l with
  | nil => simp [fat]
  | cons a l ih =>
    have h1 := ih (fun x hx => h x (by simp [hx]))
    have h2 := h a (by simp)
    have h3 := pw_bd h2.1 h2.2
    simp only [fat, List.map_cons, List.sum_cons, List.length_cons] at *
    split <;> omega
theorem fabove_bd (w : Int) (l : List Int) (h : ∀ x ∈ l, 0 ≤ x ∧ x ≤ 15) : 0 ≤ fabove w l ∧ fabove w l ≤ 16384 * l.length := by
  induction l with
  | nil => simp [fabove]
  | cons a l ih =>
    have h1 := ih (fun x hx => h x (by simp [hx]))
    have h3 := pw_bd (h a (by simp)).1 (h a (by simp)).2
    simp only [fabove, List.map_cons, List.sum_cons, List.length_cons] at *
    split <;> omega
/-- The step of the reference's sum. -/
theorem pw_step' (s x : Int) (h1 : 0 < x) : s + 2 ^ (15 - x).toNat = s + pw x := by
  unfold pw; rw [if_pos h1]
end Go.Proofs.Ytoncakcfibahaaa
