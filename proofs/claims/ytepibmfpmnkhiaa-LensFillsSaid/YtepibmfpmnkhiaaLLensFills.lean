/- The law LensFills, walked: it returns true for all lists. -/
import Derived.Test.YtepibmfpmnkhiaaFillW
namespace Go.Proofs.Ytepibmfpmnkhiaa.lLensFills
open Go.RowKit

set_option maxHeartbeats 400000 in
theorem walk (a0 : Option Addr) (n0 c0 : Nat) (x0 : List Int) (w : World) (r0 : RowsIn w w.heap.size a0 n0 c0 (fun z => [.int .i64 z]) 1 x0) (_o0 : ∀ z ∈ x0, (fun z => (Lit.int .i64 z).wf = true) z) (_s0 : c0 * 8 ≤ 140737488351232) :
    Calls Try.prog 6 #[.slice a0 n0 c0] w fun e w' => e = .returned (.bool true) ∧ Below w.heap.size w w' := by
  have R := Lib.hid r0
  clear r0 _o0 _s0
  generalize hfv : fillV x0 = fv
  go_enter Try.func6, Try.ntmps6
  go_wp2_with (first
    | (go_at_call 21; refine (fill_any _ _ _ x0 _ _ R.out).mono ?_; rintro e w' ⟨rfl, rfl⟩)
    | (go_at_call 22; refine (fillr_any _ _ _ x0 _ _ R.out).mono ?_; rintro e w' ⟨rfl, rfl⟩))
  go_ret
  exact ⟨rfl, Below.refl _ _⟩
end Go.Proofs.Ytepibmfpmnkhiaa.lLensFills
