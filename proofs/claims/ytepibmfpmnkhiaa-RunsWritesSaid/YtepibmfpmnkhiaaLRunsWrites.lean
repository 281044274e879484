/- The law RunsWrites, walked: it returns true for all lists. -/
import Derived.Test.YtepibmfpmnkhiaaRunsR
namespace Go.Proofs.Ytepibmfpmnkhiaa.lRunsWrites
open Go.RowKit

set_option maxHeartbeats 400000 in
theorem walk (a0 : Option Addr) (n0 c0 : Nat) (x0 : List Int) (w : World) (r0 : RowsIn w w.heap.size a0 n0 c0 (fun z => [.int .i64 z]) 1 x0) (_o0 : ∀ z ∈ x0, (fun z => (Lit.int .i64 z).wf = true) z) (_s0 : c0 * 8 ≤ 140737488351232) :
    Calls Try.prog 10 #[.slice a0 n0 c0] w fun e w' => e = .returned (.bool true) ∧ Below w.heap.size w w' := by
  have H1 := Lib.hid (runs_any a0 n0 c0 x0 w r0)
  have H2 : Hid (∀ w1 : World, Below w.heap.size w w1 → Calls Try.prog 34 #[.slice a0 n0 c0] w1 fun e w' => e = .returned (.tuple #[.string (strOfNums (runsS x0)), .int .i64 (runsE x0)]) ∧ Below w.heap.size w w') := fun w1 h =>
    (runsr_any a0 n0 c0 x0 w1 ((r0.below h).more h.size)).mono fun _ _ ⟨he, hb⟩ => ⟨he, h.trans (hb.mono h.size)⟩
  clear r0 _o0 _s0
  generalize runsE x0 = e0 at H1 H2
  generalize strOfNums (runsS x0) = s0 at H1 H2
  go_enter Try.func10, Try.ntmps10
  go_wp2_with (first
    | (go_at_call 33; refine H1.out.mono ?_; rintro e w1 ⟨rfl, hb1⟩)
    | (go_at_call 34; refine (H2.out _ hb1).mono ?_; rintro e w2 ⟨rfl, hb2⟩))
  go_ret
  exact ⟨rfl, hb2⟩
end Go.Proofs.Ytepibmfpmnkhiaa.lRunsWrites
