/- The law BitsUnpacks, walked: it returns true for every string and every list of widths (of at most 1048575 bytes and numbers). -/
import Derived.Test.YtdoaogfpahjmmaaUnpW
import Derived.Test.YtdoaogfpahjmmaaUnpR
import Derived.Test.YtdoaogfpahjmmaaEqyU64
namespace Go.Proofs.Ytdoaogfpahjmmaa.lBitsUnpacks
open Go.RowKit

set_option maxRecDepth 20000 in
set_option maxHeartbeats 400000 in
theorem walk (a0 : ByteArray) (a1 : Option Addr) (n1 c1 : Nat) (x1 : List Int) (w : World) (w0 : a0.size ≤ 1048575) (r1 : RowsIn w w.heap.size a1 n1 c1 (fun z => [.int .i64 z]) 1 x1) (_o1 : ∀ z ∈ x1, (fun z => (Lit.int .i64 z).wf = true) z) (s1 : c1 ≤ 1048575) :
    Calls Try.prog 12 #[.string a0, .slice a1 n1 c1] w fun e w' => e = .returned (.bool true) ∧ Below w.heap.size w w' := by
  have hn1 : n1 ≤ 1048575 := by have := r1.le; omega
  have H1 : Hid (∀ W, Below w.heap.size w W → Calls Try.prog 36 #[.string a0, .slice a1 n1 c1] W (UnPost a0 x1 W)) := fun W h => unp_any a0 a1 n1 c1 x1 W ((r1.below h).more h.size) w0 hn1
  have H2 : Hid (∀ W, Below w.heap.size w W → Calls Try.prog 37 #[.string a0, .slice a1 n1 c1] W (UnPost a0 x1 W)) := fun W h => unpr_any a0 a1 n1 c1 x1 W ((r1.below h).more h.size) w0 hn1
  unfold UnPost at H1 H2
  have HS := Lib.hid (@eqyU64)
  generalize unpE a0 x1 = E at *
  generalize unpX a0 x1 = X at *
  clear r1 _o1 s1 w0 hn1
  go_enter Try.func12, Try.ntmps12
  go_wp2_with (first
    | (go_at_call 36; refine (H1.out _ (Below.refl _ _)).mono ?_; rintro e w1 ⟨A1, n1, c1, rfl, r1, hb1⟩)
    | (go_at_call 37; refine (H2.out _ hb1).mono ?_; rintro e w2 ⟨A2, n2, c2, rfl, r2, hb2⟩)
    | (go_at_call 38; refine (HS.out _ _ _ _ _ _ _ _ _ _ (r1.below hb2) r2).mono ?_; rintro e w3 ⟨rfl, hb3⟩))
  go_ret
  exact ⟨rfl, (hb1.trans (hb2.mono hb1.size)).trans (hb3.mono (Nat.le_trans hb1.size hb2.size))⟩
end Go.Proofs.Ytdoaogfpahjmmaa.lBitsUnpacks
