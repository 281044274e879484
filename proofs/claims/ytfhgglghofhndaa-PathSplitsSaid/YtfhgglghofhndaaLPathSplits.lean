/- The law PathSplits, walked: it returns true for every string. -/
import Derived.Test.YtfhgglghofhndaaPsR
import Derived.Test.YtfhgglghofhndaaEqyStr
namespace Go.Proofs.Ytfhgglghofhndaa.lPathSplits
open Go.RowKit

set_option maxRecDepth 20000 in
set_option maxHeartbeats 2000000 in
theorem walk (a0 : ByteArray) (w : World) (_w0 : a0.size ≤ 140737488351232) :
    Calls Try.prog 9 #[.string a0] w fun e w' => e = .returned (.bool true) ∧ Below w.heap.size w w' := by
  have H1 := Lib.hid (psplit_any a0 w)
  have H2 : Hid (∀ W, Calls Try.prog 38 #[.string a0] W (PsPost a0 W)) := fun W => rpath_any a0 W
  unfold PsPost at H1 H2
  clear _w0
  generalize psV a0 = V at *
  obtain ⟨E, L⟩ := V
  simp only at H1 H2
  go_enter Try.func9, Try.ntmps9
  go_wp2_with (first
    | (go_at_call 37; refine H1.out.mono ?_; rintro e w1 ⟨D, q, d, rfl, r1, hb1⟩)
    | (go_at_call 38; refine (H2.out _).mono ?_; rintro e w2 ⟨D', q', d', rfl, r2, hb2⟩; have r3 := (r1.below hb2).more hb2.size; have HB2 := hb1.trans (hb2.mono hb1.size))
    | (go_at_call 39; refine (eqyStr D q d L D' q' d' _ _ _ r3 r2).mono ?_; rintro e w5 ⟨rfl, hb5⟩))
  go_ret
  exact ⟨rfl, HB2.trans (hb5.mono HB2.size)⟩
end Go.Proofs.Ytfhgglghofhndaa.lPathSplits
