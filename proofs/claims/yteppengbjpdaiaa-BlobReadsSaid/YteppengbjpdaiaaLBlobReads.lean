/- The law BlobReads, walked: it returns true for every string. -/
import Derived.Test.YteppengbjpdaiaaBreadR
import Derived.Test.YteppengbjpdaiaaEqyBlob
namespace Go.Proofs.Yteppengbjpdaiaa.lBlobReads
open Go.RowKit

set_option maxRecDepth 20000 in
set_option maxHeartbeats 400000 in
theorem walk (a0 : ByteArray) (w : World) (_w0 : a0.size ≤ 140737488351232) :
    Calls Try.prog 6 #[.string a0] w fun e w' => e = .returned (.bool true) ∧ Below w.heap.size w w' := by
  clear _w0
  have H1 : Hid (∀ W, Calls Try.prog 23 #[.string a0] W fun e w' => ∃ A n c, e = .returned (.tuple #[.slice A n c, .bool (brB a0), .int .i64 (brE a0)]) ∧ RowsIn w' w'.heap.size A n c BlobD.cells 4 (brL a0) ∧ Below W.heap.size W w') := fun W => bread_any a0 W
  have H2 : Hid (∀ W, Calls Try.prog 24 #[.string a0] W fun e w' => ∃ A n c, e = .returned (.tuple #[.slice A n c, .bool (brB a0), .int .i64 (brE a0)]) ∧ RowsIn w' w'.heap.size A n c BlobD.cells 4 (brL a0) ∧ Below W.heap.size W w') := fun W => breadr_any a0 W
  have HS := Lib.hid (@eqyBlob)
  generalize brE a0 = E at *
  generalize brL a0 = X at *
  generalize brB a0 = Bo at *
  go_enter Try.func6, Try.ntmps6
  go_wp2_with (first
    | (go_at_call 23; refine (H1.out _).mono ?_; rintro e w1 ⟨A1, n1, c1, rfl, r1, hb1⟩)
    | (go_at_call 24; refine (H2.out _).mono ?_; rintro e w2 ⟨A2, n2, c2, rfl, r2, hb2⟩)
    | (go_at_call 25; refine (HS.out _ _ _ _ _ _ _ _ _ _ (r1.below hb2) r2).mono ?_; rintro e w3 ⟨rfl, hb3⟩))
  go_ret
  exact ⟨rfl, (hb1.trans (hb2.mono hb1.size)).trans (hb3.mono (Nat.le_trans hb1.size hb2.size))⟩
end Go.Proofs.Yteppengbjpdaiaa.lBlobReads
