/- A checkpoint read: plain. -/
import Derived.Test.YtjmgocfoimhmjaaOpenP
import Derived.Test.YtjmgocfoimhmjaaImrP
namespace Go.Proofs.Ytjmgocfoimhmjaa
open Go.RowKit

/-- The text is a right checkpoint. -/
def PrOk (s : ByteArray) : Prop := openE s = 0 ∧ openK s = 2 ∧ 4 ≤ (openT s).size ∧ imrE ((openT s).extract 4 (openT s).size) = 0 ∧ unfixV ((openT s).extract 0 4) ≤ 2147483647
open Classical in
noncomputable def prE (s : ByteArray) : Int := if openE s ≠ 0 then openE s else if PrOk s then 0 else 4
open Classical in
noncomputable def prN (s : ByteArray) : Int := if PrOk s then openN s else 0
open Classical in
noncomputable def prS (s : ByteArray) : Int := if PrOk s then unfixV ((openT s).extract 0 4) else 0
open Classical in
noncomputable def prP (s : ByteArray) : List PlaceD := if PrOk s then imrP ((openT s).extract 4 (openT s).size) else []
open Classical in
noncomputable def prG (s : ByteArray) : List Int := if PrOk s then imrG ((openT s).extract 4 (openT s).size) else []
theorem pr_bad {s : ByteArray} (h : ¬ PrOk s) : prN s = 0 ∧ prS s = 0 ∧ prP s = [] ∧ prG s = [] := by
  unfold prN prS prP prG; rw [if_neg h, if_neg h, if_neg h, if_neg h]; exact ⟨rfl, rfl, rfl, rfl⟩
theorem pr_ok {s : ByteArray} (h : PrOk s) : prE s = 0 ∧ prN s = openN s ∧ prS s = unfixV ((openT s).extract 0 4) ∧ prP s = imrP ((openT s).extract 4 (openT s).size) ∧ prG s = imrG ((openT s).extract 4 (openT s).size) := by
  unfold prE prN prS prP prG; have e : ¬ (openE s ≠ 0) := fun g => g h.1; rw [if_neg e, if_pos h, if_pos h, if_pos h, if_pos h, if_pos h]; exact ⟨rfl, rfl, rfl, rfl, rfl⟩
theorem pr_open {s : ByteArray} (h : openE s ≠ 0) : ¬ PrOk s ∧ prE s = openE s := ⟨fun k => h k.1, by unfold prE; exact if_pos h⟩
theorem pr_form {s : ByteArray} (h : openE s = 0) (h2 : ¬ PrOk s) : prE s = 4 := by have e : ¬ (openE s ≠ 0) := fun g => g h; unfold prE; rw [if_neg e, if_neg h2]
end Go.Proofs.Ytjmgocfoimhmjaa
