/- The law LensCanons, walked: it returns true for all lists. -/
import Derived.Test.YtdoaogfpahjmmaaCanonW
import Derived.Test.YtdoaogfpahjmmaaEqIW
namespace Go.Proofs.Ytdoaogfpahjmmaa.lLensCanons
open Go.RowKit

set_option maxRecDepth 20000 in
set_option maxHeartbeats 400000 in
theorem walk (a0 : Option Addr) (n0 c0 : Nat) (x0 : List Int) (w : World) (r0 : RowsIn w w.heap.size a0 n0 c0 (fun z => [.int .i64 z]) 1 x0) (_o0 : ∀ z ∈ x0, (fun z => (Lit.int .i64 z).wf = true) z) (_s0 : c0 * 8 ≤ 140737488351232) :
    Calls Try.prog 5 #[.slice a0 n0 c0] w fun e w' => e = .returned (.bool true) ∧ Below w.heap.size w w' := by
  have H1 : Hid (∀ W, RowsIn W W.heap.size a0 n0 c0 (fun z => [.int .i64 z]) 1 x0 → Calls Try.prog 17 #[.slice a0 n0 c0] W fun e w' => ∃ A q c, e = .returned (.tuple #[.slice A q c, .int .i64 (canE x0)]) ∧ RowsIn w' w'.heap.size A q c (fun z => [.int .i64 z]) 1 (canX x0) ∧ Below W.heap.size W w') := fun W r => canon_any _ _ _ _ _ r
  have H2 : Hid (∀ W, RowsIn W W.heap.size a0 n0 c0 (fun z => [.int .i64 z]) 1 x0 → Calls Try.prog 18 #[.slice a0 n0 c0] W fun e w' => ∃ A q c, e = .returned (.tuple #[.slice A q c, .int .i64 (canE x0)]) ∧ RowsIn w' w'.heap.size A q c (fun z => [.int .i64 z]) 1 (canX x0) ∧ Below W.heap.size W w') := fun W r => canonr_any _ _ _ _ _ r
  have HS : Hid (∀ (A : Option Addr) (n c : Nat) (A' : Option Addr) (n' c' B B' : Nat) (W : World), RowsIn W B A n c (fun z => [.int .i64 z]) 1 (canX x0) → RowsIn W B' A' n' c' (fun z => [.int .i64 z]) 1 (canX x0) → Calls Try.prog 19 #[.slice A n c, .slice A' n' c'] W fun e w' => e = .returned (.bool true) ∧ Below W.heap.size W w') := fun A n c A' n' c' B B' W r r' =>
    by
    have := eqi_any A n c _ A' n' c' _ B B' W r r'
    rw [eqB_yes rfl] at this; exact this
  have R := Lib.hid r0
  generalize canE x0 = E at *
  generalize canX x0 = X at *
  clear r0 _o0 _s0
  go_enter Try.func5, Try.ntmps5
  go_wp2_with (first
    | (go_at_call 17; refine (H1.out _ R.out).mono ?_; rintro e w1 ⟨A, n, c, rfl, r1, hb1⟩; have rr := (R.out.below hb1).more hb1.size)
    | (go_at_call 18; refine (H2.out _ rr).mono ?_; rintro e w2 ⟨A', n', c', rfl, r2, hb2⟩)
    | (go_at_call 19; refine (HS.out _ _ _ _ _ _ _ _ _ (r1.below hb2) r2).mono ?_; rintro e w3 ⟨rfl, hb3⟩))
  go_ret
  exact ⟨rfl, (hb1.trans (hb2.mono hb1.size)).trans (hb3.mono (Nat.le_trans hb1.size hb2.size))⟩
end Go.Proofs.Ytdoaogfpahjmmaa.lLensCanons
