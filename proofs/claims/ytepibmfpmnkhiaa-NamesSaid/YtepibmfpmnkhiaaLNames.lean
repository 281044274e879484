/- linenlaw.Names, walked: it returns true. No condition. -/
import Derived.Test.YtepibmfpmnkhiaaKit
import Derived.WalkSpells
import Derived.WalkLawsBesides
namespace Go.Proofs.Ytepibmfpmnkhiaa.lNames
open Go.RowKit

set_option maxHeartbeats 4000000 in
theorem walk (w : World) :
    Calls Try.prog 3 #[] w fun e w' => e = .returned (.bool true) ∧ Below w.heap.size w w' := by
  go_enter Try.func3, Try.ntmps3
  go_wp2
  go_rounds 22
  go_rounds 6
  go_rounds 3
  go_rounds 4
  go_rounds 3
  go_rounds 3
  go_rounds 13
  go_ret
  refine ⟨rfl, ?_⟩
  go_grown
end Go.Proofs.Ytepibmfpmnkhiaa.lNames
