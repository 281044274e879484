/- The law BitsPacks, walked: it returns true for every list of pieces. -/
import Derived.Test.YtnnmiolgffcgkaaPkY
namespace Go.Proofs.Ytnnmiolgffcgkaa.lBitsPacks
open Go.RowKit

set_option maxRecDepth 20000 in
set_option maxHeartbeats 400000 in
theorem walk (a0 : Option Addr) (n0 c0 : Nat) (x0 : List Piece) (w : World) (r0 : RowsIn w w.heap.size a0 n0 c0 Piece.cells 2 x0) (o0 : ∀ z ∈ x0, Piece.ok z) (s0 : c0 * 16 ≤ 140737488351232) :
    Calls Try.prog 3 #[.slice a0 n0 c0] w fun e w' => e = .returned (.bool true) ∧ Below w.heap.size w w' := by
  have H1 := Lib.hid (pack_any a0 n0 c0 x0 w r0 o0 s0)
  have H2 : Hid (∀ W, Below w.heap.size w W → Calls Try.prog 16 #[.slice a0 n0 c0] W (PkPost x0 W)) := fun W h => packr_any a0 n0 c0 x0 W ((r0.below h).more h.size) o0 s0
  unfold PkPost at H1 H2
  generalize pkR x0 = V at *
  obtain ⟨S, E⟩ := V
  simp only at H1 H2
  clear r0 o0 s0
  go_enter Try.func3, Try.ntmps3
  go_wp2_with (first
    | (go_at_call 15; refine H1.out.mono ?_; rintro e w1 ⟨rfl, hb1⟩)
    | (go_at_call 16; refine (H2.out _ hb1).mono ?_; rintro e w2 ⟨rfl, hb2⟩; have HB2 := hb1.trans (hb2.mono hb1.size)))
  go_ret
  exact ⟨rfl, HB2⟩
end Go.Proofs.Ytnnmiolgffcgkaa.lBitsPacks
