/- The law ImapReads, walked: it returns true for every string. -/
import Derived.Test.YtfindhcjamdmgaaImrW
import Derived.Test.YtfindhcjamdmgaaImrR
namespace Go.Proofs.Ytfindhcjamdmgaa.lImapReads
open Go.RowKit

set_option maxRecDepth 20000 in
set_option maxHeartbeats 1000000 in
theorem walk (s : ByteArray) (w : World) (hs : s.size ≤ 140737488351232) :
    Calls Try.prog 3 #[.string s] w fun e w' => e = .returned (.bool true) ∧ Below w.heap.size w w' := by
  have H1 : Hid (∀ W, Calls Try.prog 14 #[.string s] W (ImrPost s W)) := fun W => imr_any s W
  have H2 : Hid (∀ W, Calls Try.prog 15 #[.string s] W (ImrPost s W)) := fun W => imq_any s W hs
  unfold ImrPost at H1 H2
  have HS : Hid (∀ (A : Option Addr) (n c : Nat) (A' : Option Addr) (n' c' : Nat) (D : Option Addr) (m d : Nat) (D' : Option Addr) (m' d' : Nat) (W : World), RowsIn W W.heap.size A n c PlaceD.cells 2 (imrP s) → RowsIn W W.heap.size A' n' c' (fun z => [.int .i64 z]) 1 (imrG s) → RowsIn W W.heap.size D m d PlaceD.cells 2 (imrP s) → RowsIn W W.heap.size D' m' d' (fun z => [.int .i64 z]) 1 (imrG s) → Calls Try.prog 16 #[.agg #[.slice A n c, .slice A' n' c'], .agg #[.slice D m d, .slice D' m' d']] W fun e w' => e = .returned (.bool true) ∧ Below W.heap.size W w') := fun A n c A' n' c' D m d D' m' d' W r r' q q' => by
    have := same_any A n c _ A' n' c' _ D m d _ D' m' d' _ W r r' q q'
    rw [eqB_yes rfl, eqB_yes rfl] at this; exact this
  generalize imrE s = E at *
  generalize imrP s = X at *
  generalize imrG s = Y at *
  go_enter Try.func3, Try.ntmps3
  go_wp2_with (first
    | (go_at_call 14; refine (H1.out _).mono ?_; rintro e w1 ⟨A, n, c, A', n', c', rfl, r1, q1, hb1⟩)
    | (go_at_call 15; refine (H2.out _).mono ?_; rintro e w2 ⟨D, m, d, D', m', d', rfl, r2, q2, hb2⟩; obtain ⟨k0, k1, k4⟩ := kept2 hb2)
    | (go_at_call 16; refine (HS.out _ _ _ _ _ _ _ _ _ _ _ _ _ (carry_rows r1 hb2 _) (carry_rows q1 hb2 _) (carry_new r2 _) (carry_new q2 _)).mono ?_; rintro e w3 ⟨rfl, hb3⟩))
  go_ret
  have hc := carry_below hb1 hb2
  exact ⟨rfl, (hc _).trans (hb3.mono (hc _).size)⟩
end Go.Proofs.Ytfindhcjamdmgaa.lImapReads
