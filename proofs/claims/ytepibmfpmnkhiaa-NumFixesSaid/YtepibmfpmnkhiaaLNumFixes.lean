/- The law NumFixes, walked: it returns true for all arguments. -/
import Derived.Test.YtepibmfpmnkhiaaFixW
namespace Go.Proofs.Ytepibmfpmnkhiaa.lNumFixes
open Go.RowKit Go.PlainAid

set_option maxHeartbeats 400000 in
theorem walk (a0 : Int) (a1 : Int) (a2 : ByteArray) (w : World) (w0 : (Lit.int .u64 a0).wf = true) (w1 : (Lit.int .i64 a1).wf = true) (_w2 : a2.size ≤ 140737488351232) :
    Calls Try.prog 8 #[.int .u64 a0, .int .i64 a1, .string a2] w fun e w' => e = .returned (.bool true) ∧ Below w.heap.size w w' := by
  obtain ⟨h0, h1⟩ := wf_u64_bd w0
  obtain ⟨h2, h3⟩ := wf_i64_bd w1
  clear w0 w1
  go_enter Try.func8, Try.ntmps8
  go_wp2_with (first
    | (go_at_call 25; refine (unfix_any _ _).mono ?_; rintro e w' ⟨rfl, rfl⟩)
    | (go_at_call 26; refine (unfixr_any _ _).mono ?_; rintro e w' ⟨rfl, rfl⟩)
    | (go_at_call 27; refine (fix_any _ _ _ h0 h1 h2 h3).mono ?_; rintro e w1 ⟨rfl, hb1⟩)
    | (go_at_call 28; refine (fixr_any _ _ _ h0 h1 h2 h3).mono ?_; rintro e w2 ⟨rfl, hb2⟩))
  go_ret
  exact ⟨rfl, hb1.trans (hb2.mono hb1.size)⟩
end Go.Proofs.Ytepibmfpmnkhiaa.lNumFixes
