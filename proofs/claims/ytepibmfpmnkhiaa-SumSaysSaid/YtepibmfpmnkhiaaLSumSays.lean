/- The law SumSays, walked: it returns true for all arguments. -/
import Derived.Test.YtepibmfpmnkhiaaSumM
import Derived.Test.YtepibmfpmnkhiaaKit
import Derived.Deep.RegionHeld3
namespace Go.Proofs.Ytepibmfpmnkhiaa.lSumSays
open Go.RowKit

set_option maxHeartbeats 1000000 in
theorem walk (a0 : Int) (a1 : ByteArray) (w : World) (w0 : (Lit.int .u32 a0).wf = true) (w1 : a1.size ≤ 140737488351232) :
    Calls Try.prog 12 #[.int .u32 a0, .string a1] w fun e w' => e = .returned (.bool true) ∧ Below w.heap.size w w' := by
  obtain ⟨h0, h1⟩ := wf_u32_bd w0
  obtain ⟨c, rfl⟩ := v32_of a0 h0 h1
  have hs : a1.size ≤ 9223372036854775807 := by omega
  have H1 : ∀ w1 : World, Below w.heap.size w w1 → Calls Try.prog 39 #[.string a1] w1 fun e w' => e = .returned (.int .u32 (v32 (moreF 0#32 a1))) ∧ Below w.heap.size w w' := fun w1 h =>
    (sum_any a1 w1 hs).mono fun _ _ ⟨he, hb⟩ => ⟨he, h.trans (hb.mono h.size)⟩
  have H2 : ∀ w1 : World, Below w.heap.size w w1 → Calls Try.prog 41 #[.int .u32 (v32 c), .string a1] w1 fun e w' => e = .returned (.int .u32 (v32 (moreF c a1))) ∧ Below w.heap.size w w' := fun w1 h =>
    (more_any c a1 w1 hs).mono fun _ _ ⟨he, hb⟩ => ⟨he, h.trans (hb.mono h.size)⟩
  have H3 : ∀ w1 : World, Below w.heap.size w w1 → Calls Try.prog 40 #[.int .u32 (v32 c), .string a1] w1 fun e w' => e = .returned (.int .u32 (v32 (moreF c a1))) ∧ Below w.heap.size w w' := fun w1 h =>
    (sumr_any c a1 w1 hs).mono fun _ _ ⟨he, hb⟩ => ⟨he, hb ▸ h⟩
  have H4 : ∀ w1 : World, Below w.heap.size w w1 → Calls Try.prog 40 #[.int .u32 0, .string a1] w1 fun e w' => e = .returned (.int .u32 (v32 (moreF 0#32 a1))) ∧ Below w.heap.size w w' := fun w1 h => by
    have := sumr_any 0#32 a1 w1 hs
    rw [v32_zero] at this
    exact this.mono fun _ _ ⟨he, hb⟩ => ⟨he, hb ▸ h⟩
  generalize v32 (moreF 0#32 a1) = m0 at *
  generalize v32 (moreF c a1) = m1 at *
  generalize v32 c = cc at *
  clear w0 w1 hs h0 h1
  have L1 := Lib.hid H1
  have L2 := Lib.hid H2
  have L3 := Lib.hid H3
  have L4 := Lib.hid H4
  clear H1 H2 H3 H4
  have HS : Below w.heap.size w w := Below.refl _ _
  go_enter Try.func12, Try.ntmps12
  go_wp2_with (first
    | (go_at_call 39; refine (L1.out _ HS).mono ?_; rintro e w1 ⟨rfl, hb1⟩)
    | (go_at_call 41; refine (L2.out _ hb3).mono ?_; rintro e w2 ⟨rfl, hb2⟩)
    | (go_at_call 40; refine (L3.out _ hb2).mono ?_; rintro e w4 ⟨rfl, hb4⟩)
    | (go_at_call 40; refine (L4.out _ hb1).mono ?_; rintro e w3 ⟨rfl, hb3⟩))
  go_ret
  exact ⟨rfl, hb4⟩
end Go.Proofs.Ytepibmfpmnkhiaa.lSumSays
