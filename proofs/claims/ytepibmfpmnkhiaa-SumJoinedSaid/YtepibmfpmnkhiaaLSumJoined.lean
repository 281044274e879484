/- The law SumJoined, walked: it returns true for all arguments. -/
import Derived.Test.YtepibmfpmnkhiaaSumO
import Derived.Deep.RegionHeld3
namespace Go.Proofs.Ytepibmfpmnkhiaa.lSumJoined
open Go.RowKit

set_option maxRecDepth 20000 in
set_option maxHeartbeats 400000 in
theorem walk (a0 : Int) (a1 : Int) (n : Int) (w : World) (w0 : (Lit.int .u32 a0).wf = true) (w1 : (Lit.int .u32 a1).wf = true) (w2 : (Lit.int .i64 n).wf = true) :
    Calls Try.prog 13 #[.int .u32 a0, .int .u32 a1, .int .i64 n] w fun e w' => e = .returned (.bool true) ∧ Below w.heap.size w w' := by
  obtain ⟨h0, h1⟩ := wf_u32_bd w0
  obtain ⟨h2, h3⟩ := wf_u32_bd w1
  obtain ⟨_, h5⟩ := wf_i64_bd w2
  obtain ⟨a, rfl⟩ := v32_of a0 h0 h1
  obtain ⟨b, rfl⟩ := v32_of a1 h2 h3
  have H1 : Hid (∀ W, Calls Try.prog 42 #[.int .u32 (v32 a), .int .u32 (v32 b), .int .i64 n] W fun e w' => e = .returned (.int .u32 (v32 (joinW a b n.toNat))) ∧ Below W.heap.size W w') := fun W => join_any a b n W h5
  have H2 : Hid (∀ W, Calls Try.prog 43 #[.int .u32 (v32 a), .int .u32 (v32 b), .int .i64 n] W fun e w' => e = .returned (.int .u32 (v32 (joinW a b n.toNat))) ∧ W = w') := fun W => joinr_any a b n W h5
  clear w0 w1 w2 h0 h1 h2 h3 h5
  generalize v32 (joinW a b n.toNat) = j at *
  generalize v32 a = x at *
  generalize v32 b = y at *
  go_enter Try.func13, Try.ntmps13
  go_wp2_with (first
    | (go_at_call 42; refine (H1.out _).mono ?_; rintro e w1 ⟨rfl, hb1⟩)
    | (go_at_call 43; refine (H2.out _).mono ?_; rintro e w2 ⟨rfl, rfl⟩))
  go_ret
  exact ⟨rfl, hb1⟩
end Go.Proofs.Ytepibmfpmnkhiaa.lSumJoined
