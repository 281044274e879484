/- The law NumPuts, walked: it returns true for all arguments. -/
import Derived.Test.YtepibmfpmnkhiaaPutW
import Derived.Test.YtepibmfpmnkhiaaGetW
namespace Go.Proofs.Ytepibmfpmnkhiaa.lNumPuts
open Go.RowKit Go.PlainAid

set_option maxHeartbeats 400000 in
theorem walk (a0 : Int) (a1 : ByteArray) (w : World) (w0 : (Lit.int .u64 a0).wf = true) (w1 : a1.size ≤ 140737488351232) :
    Calls Try.prog 9 #[.int .u64 a0, .string a1] w fun e w' => e = .returned (.bool true) ∧ Below w.heap.size w w' := by
  obtain ⟨h0, h1⟩ := wf_u64_bd w0
  clear w0
  have hs : a1.size ≤ 9223372036854775807 := by omega
  go_enter Try.func9, Try.ntmps9
  go_wp2_with (first
    | (go_at_call 29; refine (get_any _ _).mono ?_; rintro e w' ⟨rfl, rfl⟩)
    | (go_at_call 30; refine (getr_any _ _ hs).mono ?_; rintro e w' ⟨rfl, rfl⟩)
    | (go_at_call 31; refine (put_any _ _ h0 h1).mono ?_; rintro e w1 ⟨rfl, hb1⟩)
    | (go_at_call 32; refine (putr_all _ _ h0 h1).mono ?_; rintro e w2 ⟨rfl, hb2⟩))
  go_ret
  exact ⟨rfl, hb1.trans (hb2.mono hb1.size)⟩
end Go.Proofs.Ytepibmfpmnkhiaa.lNumPuts
