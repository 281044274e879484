/- The law SealOpens, walked: it returns true for every string. -/
import Derived.Test.YteppengbjpdaiaaOpenW
namespace Go.Proofs.Yteppengbjpdaiaa.lSealOpens
open Go.RowKit

set_option maxHeartbeats 400000 in
theorem walk (s : ByteArray) (w : World) (_w0 : s.size ≤ 140737488351232) :
    Calls Try.prog 4 #[.string s] w fun e w' => e = .returned (.bool true) ∧ Below w.heap.size w w' := by
  clear _w0
  have H1 : Hid (∀ W, Calls Try.prog 17 #[.string s] W fun e w' => e = .returned (.tuple #[.int .i64 (openK s), .int .i64 (openN s), .string (openT s), .int .i64 (openE s)]) ∧ Below W.heap.size W w') := fun W => open_any s W
  have H2 : Hid (∀ W, Calls Try.prog 18 #[.string s] W fun e w' => e = .returned (.tuple #[.int .i64 (openK s), .int .i64 (openN s), .string (openT s), .int .i64 (openE s)]) ∧ Below W.heap.size W w') := fun W => unseal_any s W
  generalize openK s = a at *
  generalize openN s = b at *
  generalize openT s = c at *
  generalize openE s = d at *
  go_enter Try.func4, Try.ntmps4
  go_wp2_with (first
    | (go_at_call 17; refine (H1.out _).mono ?_; rintro e w1 ⟨rfl, hb1⟩)
    | (go_at_call 18; refine (H2.out _).mono ?_; rintro e w2 ⟨rfl, hb2⟩))
  go_ret
  exact ⟨rfl, hb1.trans (hb2.mono hb1.size)⟩
end Go.Proofs.Yteppengbjpdaiaa.lSealOpens
