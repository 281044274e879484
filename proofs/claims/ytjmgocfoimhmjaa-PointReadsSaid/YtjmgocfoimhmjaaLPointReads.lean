/- The law PointReads, walked: it returns true for every string. -/
import Derived.Test.YtjmgocfoimhmjaaPreadW
import Derived.Test.YtjmgocfoimhmjaaFreshW
namespace Go.Proofs.Ytjmgocfoimhmjaa.lPointReads
open Go.RowKit

theorem kept3p {w1 w2 : World} {v0 v1 v2 : Value} {t : TypeId} (hb : Below (w1.alloc (.cells #[v0, v1, v2] t)).heap.size (w1.alloc (.cells #[v0, v1, v2] t)) w2) :
    w2.cell? ⟨w1.heap.size, 0, none⟩ = some v0 ∧ w2.cell? ⟨w1.heap.size, 1, none⟩ = some v1 ∧ w2.cell? ⟨w1.heap.size, 2, none⟩ = some v2 ∧ w1.heap.size < w2.heap.size := by
  have h := heap_alloc_new w1 (.cells #[v0, v1, v2] t)
  have hz : w1.heap.size < (w1.alloc (.cells #[v0, v1, v2] t)).heap.size := by simp
  have h' := row_below h hz hb
  have := hb.size
  exact ⟨row_cell h' 0, row_cell h' 1, row_cell h' 2, by omega⟩

set_option maxRecDepth 20000 in
set_option maxHeartbeats 1000000 in
theorem walk (s : ByteArray) (w : World) (hs : s.size ≤ 140737488351232) :
    Calls Try.prog 7 #[.string s] w fun e w' => e = .returned (.bool true) ∧ Below w.heap.size w w' := by
  have H1 : Hid (∀ W, Calls Try.prog 36 #[.string s] W (PrdPost s W)) := fun W => prd_any s W
  have H2 : Hid (∀ W, Calls Try.prog 37 #[.string s] W (PrdPost s W)) := fun W => prq_any s hs W
  unfold PrdPost at H1 H2
  have HS : Hid (∀ (A : Option Addr) (n c : Nat) (A' : Option Addr) (n' c' : Nat) (D : Option Addr) (m d : Nat) (D' : Option Addr) (m' d' : Nat) (W : World), RowsIn W W.heap.size A n c PlaceD.cells 2 (prP s) → RowsIn W W.heap.size A' n' c' (fun z => [.int .i64 z]) 1 (prG s) → RowsIn W W.heap.size D m d PlaceD.cells 2 (prP s) → RowsIn W W.heap.size D' m' d' (fun z => [.int .i64 z]) 1 (prG s) → Calls Try.prog 21 #[.agg #[.slice A n c, .slice A' n' c'], .agg #[.slice D m d, .slice D' m' d']] W fun e w' => e = .returned (.bool true) ∧ Below W.heap.size W w') := fun A n c A' n' c' D m d D' m' d' W r r' q q' => by
    have := same_any A n c _ A' n' c' _ D m d _ D' m' d' _ W r r' q q'
    rw [eqB_yes rfl, eqB_yes rfl] at this; exact this
  generalize prE s = E at *
  generalize prN s = N at *
  generalize prS s = Z at *
  generalize prP s = X at *
  generalize prG s = Y at *
  clear hs
  go_enter Try.func7, Try.ntmps7
  go_wp2_with (first
    | (go_at_call 36; refine (H1.out _).mono ?_; rintro e w1 ⟨A, n, c, A', n', c', rfl, r1, q1, hb1⟩)
    | (go_at_call 37; refine (H2.out _).mono ?_; rintro e w2 ⟨D, m, d, D', m', d', rfl, r2, q2, hb2⟩; obtain ⟨k0, k1, k2, k4⟩ := kept3p hb2; have m0 := heap_alloc_new w2 (.cells #[.int .i64 Z, .slice D m d, .slice D' m' d'] 64); have m1 : (w2.alloc (.cells #[.int .i64 Z, .slice D m d, .slice D' m' d'] 64)).cell? ⟨w2.heap.size, 0, none⟩ = some (.int .i64 Z) := row_cell m0 0; have m2 : (w2.alloc (.cells #[.int .i64 Z, .slice D m d, .slice D' m' d'] 64)).cell? ⟨w2.heap.size, 1, none⟩ = some (.slice D m d) := row_cell m0 1; have m3 : (w2.alloc (.cells #[.int .i64 Z, .slice D m d, .slice D' m' d'] 64)).cell? ⟨w2.heap.size, 2, none⟩ = some (.slice D' m' d') := row_cell m0 2; clear m0)
    | (go_at_call 21; refine (HS.out _ _ _ _ _ _ _ _ _ _ _ _ _ (carry_rows r1 hb2 _) (carry_rows q1 hb2 _) (carry_new r2 _) (carry_new q2 _)).mono ?_; rintro e w3 ⟨rfl, hb3⟩))
  go_ret
  have hc := carry_below hb1 hb2
  exact ⟨rfl, (hc _).trans (hb3.mono (hc _).size)⟩
end Go.Proofs.Ytjmgocfoimhmjaa.lPointReads
