/- The law RunsReads, walked: it returns true for every string. -/
import Derived.Test.YtdoaogfpahjmmaaRrW
import Derived.Test.YtdoaogfpahjmmaaEqIW
namespace Go.Proofs.Ytdoaogfpahjmmaa.lRunsReads
open Go.RowKit

set_option maxRecDepth 20000 in
set_option maxHeartbeats 400000 in
theorem walk (s : ByteArray) (w : World) (hs : s.size ≤ 140737488351232) :
    Calls Try.prog 6 #[.string s] w fun e w' => e = .returned (.bool true) ∧ Below w.heap.size w w' := by
  have hs63 : s.size ≤ 9223372036854775807 := by omega
  have H1 : Hid (∀ W, Calls Try.prog 20 #[.string s] W fun e w' => ∃ A q c, e = .returned (.tuple #[.slice A q c, .int .i64 (rrAt s), .int .i64 (rrE s)]) ∧ RowsIn w' w'.heap.size A q c (fun z => [.int .i64 z]) 1 (rrX s) ∧ Below W.heap.size W w') := fun W => rread_any s W hs63
  have H2 : Hid (∀ W, Calls Try.prog 21 #[.string s] W fun e w' => ∃ A q c, e = .returned (.tuple #[.slice A q c, .int .i64 (rrAt s), .int .i64 (rrE s)]) ∧ RowsIn w' w'.heap.size A q c (fun z => [.int .i64 z]) 1 (rrX s) ∧ Below W.heap.size W w') := fun W => rreadr_any s W hs63
  have HS : Hid (∀ (A : Option Addr) (n c : Nat) (A' : Option Addr) (n' c' B B' : Nat) (W : World), RowsIn W B A n c (fun z => [.int .i64 z]) 1 (rrX s) → RowsIn W B' A' n' c' (fun z => [.int .i64 z]) 1 (rrX s) → Calls Try.prog 19 #[.slice A n c, .slice A' n' c'] W fun e w' => e = .returned (.bool true) ∧ Below W.heap.size W w') := fun A n c A' n' c' B B' W r r' => by
    have := eqi_any A n c _ A' n' c' _ B B' W r r'
    rw [eqB_yes rfl] at this; exact this
  generalize rrAt s = K at *
  generalize rrE s = E at *
  generalize rrX s = X at *
  clear hs hs63
  go_enter Try.func6, Try.ntmps6
  go_wp2_with (first
    | (go_at_call 20; refine (H1.out _).mono ?_; rintro e w1 ⟨A, n, c, rfl, r1, hb1⟩)
    | (go_at_call 21; refine (H2.out _).mono ?_; rintro e w2 ⟨A', n', c', rfl, r2, hb2⟩)
    | (go_at_call 19; refine (HS.out _ _ _ _ _ _ _ _ _ (r1.below hb2) r2).mono ?_; rintro e w3 ⟨rfl, hb3⟩))
  go_ret
  exact ⟨rfl, (hb1.trans (hb2.mono hb1.size)).trans (hb3.mono (Nat.le_trans hb1.size hb2.size))⟩
end Go.Proofs.Ytdoaogfpahjmmaa.lRunsReads
