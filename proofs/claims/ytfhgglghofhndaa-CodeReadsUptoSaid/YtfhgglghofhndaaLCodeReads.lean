/- The law CodeReads, walked: it returns true for every list of lengths, text, place and number (lists and texts of at most 1048575). -/
import Derived.Test.YtfhgglghofhndaaCrdW
import Derived.Test.YtfhgglghofhndaaCdrW
import Derived.Test.YtfhgglghofhndaaEqIW
namespace Go.Proofs.Ytfhgglghofhndaa.lCodeReads
open Go.RowKit

set_option maxRecDepth 20000 in
set_option maxHeartbeats 400000 in
theorem walk (a0 : Option Addr) (n0 c0 : Nat) (x0 : List Int) (a1 : ByteArray) (a2 : Int) (a3 : Int) (w : World) (r0 : RowsIn w w.heap.size a0 n0 c0 (fun z => [.int .i64 z]) 1 x0) (_o0 : ∀ z ∈ x0, (fun z => (Lit.int .i64 z).wf = true) z) (_s0 : c0 ≤ 1048575) (w1 : a1.size ≤ 1048575) (_w2 : (Lit.int .i64 a2).wf = true) (_w3 : (Lit.int .i64 a3).wf = true) :
    Calls Try.prog 12 #[.slice a0 n0 c0, .string a1, .int .i64 a2, .int .i64 a3] w fun e w' => e = .returned (.bool true) ∧ Below w.heap.size w w' := by
  have H1 : Hid (∀ W, Below w.heap.size w W → Calls Try.prog 45 #[.slice a0 n0 c0, .string a1, .int .i64 a2, .int .i64 a3] W (CrPost x0 a1 a2 a3 W)) := fun W h => crd_any a0 n0 c0 x0 a1 a2 a3 W ((r0.below h).more h.size) w1
  have H2 : Hid (∀ W, Below w.heap.size w W → Calls Try.prog 46 #[.slice a0 n0 c0, .string a1, .int .i64 a2, .int .i64 a3] W (CrPost x0 a1 a2 a3 W)) := fun W h => cdr_any a0 n0 c0 x0 a1 a2 a3 W ((r0.below h).more h.size) w1
  have HS : Hid (∀ (A : Option Addr) (n c : Nat) (A' : Option Addr) (n' c' B B' : Nat) (W : World), RowsIn W B A n c (fun z => [.int .i64 z]) 1 (crR x0 a1 a2 a3).2.1 → RowsIn W B' A' n' c' (fun z => [.int .i64 z]) 1 (crR x0 a1 a2 a3).2.1 → Calls Try.prog 47 #[.slice A n c, .slice A' n' c'] W fun e w' => e = .returned (.bool true) ∧ Below W.heap.size W w') := fun A n c A' n' c' B B' W h h' => by
    have := eqi_any A n c _ A' n' c' _ B B' W h h'
    rw [eqB_yes rfl] at this; exact this
  unfold CrPost at H1 H2
  generalize (crR x0 a1 a2 a3).2.1 = X at *
  generalize (crR x0 a1 a2 a3).2.2 = K at *
  generalize (crR x0 a1 a2 a3).1 = E at *
  clear r0 w1
  go_enter Try.func12, Try.ntmps12
  go_wp2_with (first
    | (go_at_call 45; refine (H1.out _ (Below.refl _ _)).mono ?_; rintro e w1 ⟨A1, c1, rfl, r1, hb1⟩)
    | (go_at_call 46; refine (H2.out _ hb1).mono ?_; rintro e w2 ⟨A2, c2, rfl, r2, hb2⟩)
    | (go_at_call 47; refine (HS.out _ _ _ _ _ _ _ _ _ (r1.below hb2) r2).mono ?_; rintro e w3 ⟨rfl, hb3⟩))
  go_ret
  exact ⟨rfl, (hb1.trans (hb2.mono hb1.size)).trans (hb3.mono (Nat.le_trans hb1.size hb2.size))⟩
end Go.Proofs.Ytfhgglghofhndaa.lCodeReads
