/- The law DirSays, walked: it returns true for every list of entries and every name. -/
import Derived.Test.YtfhgglghofhndaaDtxW
namespace Go.Proofs.Ytfhgglghofhndaa.lDirSays
open Go.RowKit

set_option maxRecDepth 20000 in
set_option maxHeartbeats 2000000 in
theorem walk (a0 : Option Addr) (n0 c0 : Nat) (x0 : List EntD) (a1 : ByteArray) (w : World) (r0 : RowsIn w w.heap.size a0 n0 c0 EntD.cells 2 x0) (_o0 : ∀ z ∈ x0, EntD.ok z) (_s0 : c0 * 24 ≤ 140737488351232) (_w1 : a1.size ≤ 140737488351232) :
    Calls Try.prog 7 #[.slice a0 n0 c0, .string a1] w fun e w' => e = .returned (.bool true) ∧ Below w.heap.size w w' := by
  clear _o0 _s0 _w1
  have R : Hid (∀ W, Below w.heap.size w W → RowsIn W W.heap.size a0 n0 c0 EntD.cells 2 x0) := fun W h => (r0.below h).more h.size
  have H1 : Hid (∀ W, Below w.heap.size w W → Calls Try.prog 25 #[.slice a0 n0 c0] W (DtPost x0 W)) := fun W h => dwrite_any a0 n0 c0 x0 W (R.out W h)
  have H2 : Hid (∀ W, Below w.heap.size w W → Calls Try.prog 26 #[.slice a0 n0 c0] W (DtPost x0 W)) := fun W h => rtext_any a0 n0 c0 x0 W (R.out W h)
  have H3 : Hid (∀ W, Calls Try.prog 27 #[.string a1] W fun e w' => e = .returned (.int .i64 (nameE a1)) ∧ Below W.heap.size W w') := fun W => good_any a1 W
  have H4 : Hid (∀ W, Calls Try.prog 28 #[.string a1] W fun e w' => e = .returned (.int .i64 (nameE a1)) ∧ w' = W) := fun W => rname_any a1 W
  have H5 : Hid (∀ W, Below w.heap.size w W → Calls Try.prog 29 #[.slice a0 n0 c0] W fun e w' => e = .returned (.int .i64 (dirE x0)) ∧ Below W.heap.size W w') := fun W h => dcheck_any a0 n0 c0 x0 W (R.out W h)
  have H6 : Hid (∀ W, Below w.heap.size w W → Calls Try.prog 30 #[.slice a0 n0 c0] W fun e w' => e = .returned (.int .i64 (dirE x0)) ∧ Below W.heap.size W w') := fun W h => rdir_any a0 n0 c0 x0 W (R.out W h)
  unfold DtPost at H1 H2
  clear r0 R
  generalize dirT x0 = T at *
  generalize dirE x0 = E at *
  generalize nameE a1 = NE at *
  go_enter Try.func7, Try.ntmps7
  go_wp2_with (first
    | (go_at_call 25; refine (H1.out _ (Below.refl _ _)).mono ?_; rintro e w1 ⟨rfl, hb1⟩)
    | (go_at_call 26; refine (H2.out _ hb1).mono ?_; rintro e w2 ⟨rfl, hb2⟩; have HB2 := hb1.trans (hb2.mono hb1.size))
    | (go_at_call 27; refine (H3.out _).mono ?_; rintro e w3 ⟨rfl, hb3⟩; have HB3 := HB2.trans (hb3.mono HB2.size))
    | (go_at_call 28; refine (H4.out _).mono ?_; rintro e w' ⟨rfl, hw'⟩; rw [hw']; clear hw')
    | (go_at_call 29; refine (H5.out _ HB3).mono ?_; rintro e w5 ⟨rfl, hb5⟩; have HB5 := HB3.trans (hb5.mono HB3.size))
    | (go_at_call 30; refine (H6.out _ HB5).mono ?_; rintro e w6 ⟨rfl, hb6⟩; have HB6 := HB5.trans (hb6.mono HB5.size)))
  go_ret
  exact ⟨rfl, HB6⟩
end Go.Proofs.Ytfhgglghofhndaa.lDirSays
