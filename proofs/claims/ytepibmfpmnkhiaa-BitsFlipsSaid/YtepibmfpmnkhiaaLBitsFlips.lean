/- The law BitsFlips, walked: it returns true for all arguments. -/
import Derived.Test.YtepibmfpmnkhiaaFlipW
namespace Go.Proofs.Ytepibmfpmnkhiaa.lBitsFlips
open Go.RowKit

set_option maxHeartbeats 400000 in
theorem walk (a0 : Int) (a1 : Int) (w : World) (w0 : (Lit.int .u64 a0).wf = true) (w1 : (Lit.int .i64 a1).wf = true) :
    Calls Try.prog 5 #[.int .u64 a0, .int .i64 a1] w fun e w' => e = .returned (.bool true) ∧ Below w.heap.size w w' := by
  obtain ⟨h0, h1⟩ := wf_u64_bd w0
  obtain ⟨h2, h3⟩ := wf_i64_bd w1
  clear w0 w1
  obtain ⟨n, rfl⟩ := Int.eq_ofNat_of_zero_le h0
  have hn : n < 18446744073709551616 := by omega
  go_enter Try.func5, Try.ntmps5
  go_wp2_with (first
    | (go_at_call 19; refine (flip_any _ _ _ hn h2 h3).mono ?_; rintro e w' ⟨rfl, rfl⟩)
    | (go_at_call 20; refine (flipr_any _ _ _ hn h2 h3).mono ?_; rintro e w' ⟨rfl, rfl⟩))
  go_ret
  exact ⟨rfl, Below.refl _ _⟩
end Go.Proofs.Ytepibmfpmnkhiaa.lBitsFlips
