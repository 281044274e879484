/- Where something first fails; a truth value returned. -/
import Derived.Test.YtcjidphichlhgaaOwn
namespace Go.Proofs.Ytcjidphichlhgaa
open Go.RowKit

theorem ret_b1 {a b : Bool} (h : a = b) : Ending.returned (.bool a) = .returned (.bool b) := by rw [h]
theorem first_to {G B : Nat → Prop} (n : Nat) (h : ∀ i, i < n → G i ∨ B i) : ∃ J, J ≤ n ∧ (∀ i, i < J → G i) ∧ (J < n → B J) := by
  induction n with
  | zero => exact ⟨0, Nat.le_refl _, fun i hi => by omega, fun hi => by omega⟩
  | succ n ih =>
    obtain ⟨J, h1, h2, h3⟩ := ih (fun i hi => h i (by omega))
    by_cases hJ : J < n
    · exact ⟨J, by omega, h2, fun _ => h3 hJ⟩
    · obtain rfl : J = n := by omega
      rcases h J (by omega) with hg | hb
      · exact ⟨J + 1, Nat.le_refl _, fun i hi => by
          by_cases e : i = J
          · subst e; exact hg
          · exact h2 i (by omega), fun hi => by omega⟩
      · exact ⟨J, by omega, h2, fun _ => hb⟩
end Go.Proofs.Ytcjidphichlhgaa
