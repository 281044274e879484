/- The law DirReads, walked: it returns true for every string of at most 1048575 bytes. -/
import Derived.Test.YtfhgglghofhndaaDrdR
import Derived.Test.YtfhgglghofhndaaEqyEnt
namespace Go.Proofs.Ytfhgglghofhndaa.lDirReads
open Go.RowKit

set_option maxRecDepth 20000 in
set_option maxHeartbeats 2000000 in
theorem walk (a0 : ByteArray) (w : World) (w0 : a0.size ≤ 1048575) :
    Calls Try.prog 6 #[.string a0] w fun e w' => e = .returned (.bool true) ∧ Below w.heap.size w w' := by
  have H1 := Lib.hid (dread_any a0 w0 w)
  have H2 : Hid (∀ W, Calls Try.prog 23 #[.string a0] W (RdPost a0 W)) := fun W => rread_any a0 w0 W
  unfold RdPost at H1 H2
  clear w0
  generalize rdE a0 = E at *
  generalize rdR a0 = L at *
  go_enter Try.func6, Try.ntmps6
  go_wp2_with (first
    | (go_at_call 22; refine H1.out.mono ?_; rintro e w1 ⟨D, q, d, rfl, r1, hb1⟩)
    | (go_at_call 23; refine (H2.out _).mono ?_; rintro e w2 ⟨D', q', d', rfl, r2, hb2⟩; have r3 := (r1.below hb2).more hb2.size; have HB2 := hb1.trans (hb2.mono hb1.size))
    | (go_at_call 24; refine (eqyEnt D q d L D' q' d' _ _ _ r3 r2).mono ?_; rintro e w5 ⟨rfl, hb5⟩))
  go_ret
  exact ⟨rfl, HB2.trans (hb5.mono HB2.size)⟩
end Go.Proofs.Ytfhgglghofhndaa.lDirReads
