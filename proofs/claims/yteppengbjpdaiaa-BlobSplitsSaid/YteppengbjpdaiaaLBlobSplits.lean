/- The law BlobSplits, walked: it returns true for every list. -/
import Derived.Test.YteppengbjpdaiaaSplitW
import Derived.Test.YteppengbjpdaiaaEqIW
namespace Go.Proofs.Yteppengbjpdaiaa.lBlobSplits
open Go.RowKit

set_option maxRecDepth 20000 in
set_option maxHeartbeats 400000 in
theorem walk (A : Option Addr) (n c : Nat) (l : List BlobD) (w : World) (r : RowsIn w w.heap.size A n c BlobD.cells 4 l) (_o0 : ∀ z ∈ l, BlobD.ok z) (s0 : c * 40 ≤ 140737488351232) :
    Calls Try.prog 7 #[.slice A n c] w fun e w' => e = .returned (.bool true) ∧ Below w.heap.size w w' := by
  clear _o0
  have H1 : Hid (∀ W, Below w.heap.size w W → Calls Try.prog 26 #[.slice A n c] W fun e w' => ∃ A q c, e = .returned (.tuple #[.slice A q c, .int .i64 (splE l)]) ∧ RowsIn w' w'.heap.size A q c (fun z => [.int .i64 z]) 1 (splX l) ∧ Below W.heap.size W w') := fun W h => split_any A n c l W ((r.below h).more h.size) s0
  have H2 : Hid (∀ W, Below w.heap.size w W → Calls Try.prog 27 #[.slice A n c] W fun e w' => ∃ A q c, e = .returned (.tuple #[.slice A q c, .int .i64 (splE l)]) ∧ RowsIn w' w'.heap.size A q c (fun z => [.int .i64 z]) 1 (splX l) ∧ Below W.heap.size W w') := fun W h => splitr_any A n c l W ((r.below h).more h.size) s0
  have HS : Hid (∀ (A : Option Addr) (n c : Nat) (A' : Option Addr) (n' c' B B' : Nat) (W : World), RowsIn W B A n c (fun z => [.int .i64 z]) 1 (splX l) → RowsIn W B' A' n' c' (fun z => [.int .i64 z]) 1 (splX l) → Calls Try.prog 28 #[.slice A n c, .slice A' n' c'] W fun e w' => e = .returned (.bool true) ∧ Below W.heap.size W w') := fun A n c A' n' c' B B' W r r' => by
    have := eqi_any A n c _ A' n' c' _ B B' W r r'
    rw [eqB_yes rfl] at this; exact this
  generalize splE l = E at *
  generalize splX l = X at *
  clear r s0
  have hb0 : Below w.heap.size w w := Below.refl _ _
  go_enter Try.func7, Try.ntmps7
  go_wp2_with (first
    | (go_at_call 26; refine (H1.out _ hb0).mono ?_; rintro e w1 ⟨A1, n1, c1, rfl, r1, hb1⟩)
    | (go_at_call 27; refine (H2.out _ hb1).mono ?_; rintro e w2 ⟨A2, n2, c2, rfl, r2, hb2⟩)
    | (go_at_call 28; refine (HS.out _ _ _ _ _ _ _ _ _ (r1.below hb2) r2).mono ?_; rintro e w3 ⟨rfl, hb3⟩))
  go_ret
  exact ⟨rfl, (hb1.trans (hb2.mono hb1.size)).trans (hb3.mono (Nat.le_trans hb1.size hb2.size))⟩
end Go.Proofs.Yteppengbjpdaiaa.lBlobSplits
