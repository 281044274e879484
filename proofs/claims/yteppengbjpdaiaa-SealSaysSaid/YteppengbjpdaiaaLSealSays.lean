/- The law SealSays, walked: it returns true for all arguments. -/
import Derived.Test.YteppengbjpdaiaaSealW
namespace Go.Proofs.Yteppengbjpdaiaa.lSealSays
open Go.RowKit

set_option maxHeartbeats 400000 in
theorem walk (k : Int) (n : Int) (t : ByteArray) (w : World) (_w0 : (Lit.int .i64 k).wf = true) (_w1 : (Lit.int .i64 n).wf = true) (_w2 : t.size ≤ 140737488351232) :
    Calls Try.prog 3 #[.int .i64 k, .int .i64 n, .string t] w fun e w' => e = .returned (.bool true) ∧ Below w.heap.size w w' := by
  clear _w0 _w1 _w2
  have H1 : Hid (∀ W, Calls Try.prog 15 #[.int .i64 k, .int .i64 n, .string t] W fun e w' => e = .returned (.tuple #[.string (strOfNums (sealS k n t)), .int .i64 (sealE k n t.size)]) ∧ Below W.heap.size W w') := fun W => seal_any k n t W
  have H2 : Hid (∀ W, Calls Try.prog 16 #[.int .i64 k, .int .i64 n, .string t] W fun e w' => e = .returned (.tuple #[.string (strOfNums (sealS k n t)), .int .i64 (sealE k n t.size)]) ∧ Below W.heap.size W w') := fun W => sealr_any k n t W
  generalize sealE k n t.size = ee at *
  generalize strOfNums (sealS k n t) = ss at *
  go_enter Try.func3, Try.ntmps3
  go_wp2_with (first
    | (go_at_call 15; refine (H1.out _).mono ?_; rintro e w1 ⟨rfl, hb1⟩)
    | (go_at_call 16; refine (H2.out _).mono ?_; rintro e w2 ⟨rfl, hb2⟩))
  go_ret
  exact ⟨rfl, hb1.trans (hb2.mono hb1.size)⟩
end Go.Proofs.Yteppengbjpdaiaa.lSealSays
