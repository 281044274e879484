/- inode.Right and its reference, walked: where a blob may lie. -/
import Derived.Test.YtgiblnfdadbapaaTypes
import Derived.Test.YtgiblnfdadbapaaFirst
import Derived.WalkSpells
import Derived.Lib.Hide
namespace Go.Proofs.Ytgiblnfdadbapaa
open Go.RowKit

/-- A place: none, or one of a segment's blobs. -/
def Right (c n : Int) : Prop := (c = 0 ∧ n = 0) ∨ (2 ≤ c ∧ c ≤ 127 ∧ 0 ≤ n ∧ n ≤ 39)
instance (c n : Int) : Decidable (Right c n) := by unfold Right; exact inferInstance
def rightB (c n : Int) : Bool := decide (Right c n)
theorem rightB_yes {c n : Int} (h : Right c n) : rightB c n = true := by simp [rightB, h]
theorem rightB_no {c n : Int} (h : ¬ Right c n) : rightB c n = false := by simp [rightB, h]

set_option maxHeartbeats 400000 in
theorem right_any (c n : Int) (w : World) :
    Calls Try.prog 14 #[.agg #[.int .i64 c, .int .i64 n]] w fun e w' => e = .returned (.bool (rightB c n)) ∧ w.alloc (.cells #[.int .i64 c, .int .i64 n] 34) = w' := by
  by_cases h1 : 0 ≤ c
  · by_cases h2 : c < 128
    · by_cases h3 : 0 ≤ n
      · by_cases h4 : n < 40
        · by_cases h5 : c = 0
          · by_cases h6 : n = 0
            · have F := rightB_yes (c := c) (n := n) (by unfold Right; omega)
              subst h5; subst h6
              go_enter Try.func14, Try.ntmps14
              go_wp2
              go_ret
              exact ⟨by first | exact ret_b1 F.symm | rfl, rfl⟩
            · have F := rightB_no (c := c) (n := n) (by unfold Right; omega)
              have h6' : (n == 0) = false := beq_eq_false_iff_ne.2 h6
              subst h5
              go_enter Try.func14, Try.ntmps14
              go_wp2
              go_ret
              exact ⟨by first | exact ret_b1 F.symm | rfl, rfl⟩
          · have h5' : (c != 0) = true := bne_iff_ne.2 h5
            by_cases h6 : c = 1
            · have F := rightB_no (c := c) (n := n) (by unfold Right; omega)
              subst h6
              go_enter Try.func14, Try.ntmps14
              go_wp2
              go_ret
              exact ⟨by first | exact ret_b1 F.symm | rfl, rfl⟩
            · have F := rightB_yes (c := c) (n := n) (by unfold Right; omega)
              have h6' : (c != 1) = true := bne_iff_ne.2 h6
              go_enter Try.func14, Try.ntmps14
              go_wp2
              go_ret
              exact ⟨by first | exact ret_b1 F.symm | rfl, rfl⟩
        · have F := rightB_no (c := c) (n := n) (by unfold Right; omega)
          have h4' : decide (n < 40) = false := by simpa using h4
          go_enter Try.func14, Try.ntmps14
          go_wp2
          go_ret
          exact ⟨by first | exact ret_b1 F.symm | rfl, rfl⟩
      · have F := rightB_no (c := c) (n := n) (by unfold Right; omega)
        have h3' : decide (0 ≤ n) = false := by simpa using h3
        go_enter Try.func14, Try.ntmps14
        go_wp2
        go_ret
        exact ⟨by first | exact ret_b1 F.symm | rfl, rfl⟩
    · have F := rightB_no (c := c) (n := n) (by unfold Right; omega)
      have h2' : decide (c < 128) = false := by simpa using h2
      go_enter Try.func14, Try.ntmps14
      go_wp2
      go_ret
      exact ⟨by first | exact ret_b1 F.symm | rfl, rfl⟩
  · have F := rightB_no (c := c) (n := n) (by unfold Right; omega)
    have h1' : decide (0 ≤ c) = false := by simpa using h1
    go_enter Try.func14, Try.ntmps14
    go_wp2
    go_ret
    exact ⟨by first | exact ret_b1 F.symm | rfl, rfl⟩

set_option maxHeartbeats 400000 in
theorem rightr_any (c n : Int) (w : World) :
    Calls Try.prog 15 #[.agg #[.int .i64 c, .int .i64 n]] w fun e w' => e = .returned (.bool (rightB c n)) ∧ w.alloc (.cells #[.int .i64 c, .int .i64 n] 34) = w' := by
  by_cases h0 : c = 0 ∧ n = 0
  · obtain ⟨rfl, rfl⟩ := h0
    have F := rightB_yes (c := 0) (n := 0) (by unfold Right; omega)
    go_enter Try.func15, Try.ntmps15
    go_wp2
    go_ret
    exact ⟨by first | exact ret_b1 F.symm | rfl, rfl⟩
  · by_cases h5 : c = 0
    · subst h5
      have h6 : n ≠ 0 := fun h => h0 ⟨rfl, h⟩
      have F := rightB_no (c := 0) (n := n) (by unfold Right; omega)
      have h6' : (n == 0) = false := beq_eq_false_iff_ne.2 h6
      go_enter Try.func15, Try.ntmps15
      go_wp2
      go_ret
      exact ⟨by first | exact ret_b1 F.symm | rfl, rfl⟩
    · by_cases h1 : 2 ≤ c
      · by_cases h2 : c ≤ 127
        · by_cases h3 : 0 ≤ n
          · by_cases h4 : n ≤ 39
            · have F := rightB_yes (c := c) (n := n) (by unfold Right; omega)
              go_enter Try.func15, Try.ntmps15
              go_wp2
              go_ret
              exact ⟨by first | exact ret_b1 F.symm | rfl, rfl⟩
            · have F := rightB_no (c := c) (n := n) (by unfold Right; omega)
              have h4' : decide (n ≤ 39) = false := by simpa using h4
              go_enter Try.func15, Try.ntmps15
              go_wp2
              go_ret
              exact ⟨by first | exact ret_b1 F.symm | rfl, rfl⟩
          · have F := rightB_no (c := c) (n := n) (by unfold Right; omega)
            have h3' : decide (0 ≤ n) = false := by simpa using h3
            go_enter Try.func15, Try.ntmps15
            go_wp2
            go_ret
            exact ⟨by first | exact ret_b1 F.symm | rfl, rfl⟩
        · have F := rightB_no (c := c) (n := n) (by unfold Right; omega)
          have h2' : decide (c ≤ 127) = false := by simpa using h2
          go_enter Try.func15, Try.ntmps15
          go_wp2
          go_ret
          exact ⟨by first | exact ret_b1 F.symm | rfl, rfl⟩
      · have F := rightB_no (c := c) (n := n) (by unfold Right; omega)
        have h1' : decide (2 ≤ c) = false := by simpa using h1
        go_enter Try.func15, Try.ntmps15
        go_wp2
        go_ret
        exact ⟨by first | exact ret_b1 F.symm | rfl, rfl⟩
end Go.Proofs.Ytgiblnfdadbapaa
