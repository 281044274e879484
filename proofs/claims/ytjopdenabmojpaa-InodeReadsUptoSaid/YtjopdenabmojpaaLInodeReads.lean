/- The law InodeReads, walked: it returns true for every string of at most 1048575 bytes. -/
import Derived.Test.YtjopdenabmojpaaIreadW
import Derived.Test.YtjopdenabmojpaaEqW
import Derived.Deep.RegionHeld3
namespace Go.Proofs.Ytjopdenabmojpaa.lInodeReads
open Go.RowKit

set_option maxRecDepth 20000 in
set_option maxHeartbeats 1000000 in
theorem same_ino (k g z : Int) (A : Option Addr) (n c : Nat) (A' : Option Addr) (n' c' : Nat) (xs : List PlaceD) (w : World) (r : RowsIn w w.heap.size A n c PlaceD.cells 2 xs) (r' : RowsIn w w.heap.size A' n' c' PlaceD.cells 2 xs) :
    Calls Try.prog 56 #[.agg #[.int .i64 k, .int .i64 g, .int .i64 z, .slice A n c], .agg #[.int .i64 k, .int .i64 g, .int .i64 z, .slice A' n' c']] w fun e w' => e = .returned (.bool true) ∧ Below w.heap.size w w' := by
  have H1 : Hid (∀ W, Below w.heap.size w W → Calls Try.prog 72 #[.slice A n c, .slice A' n' c'] W fun e w' => e = .returned (.bool true) ∧ Below W.heap.size W w') := fun W h => by
    have := eqp_any A n c xs A' n' c' xs _ _ W (r.below h) (r'.below h)
    rw [eqB_yes rfl] at this; exact this
  clear r r'
  have hb1 : Below w.heap.size w ((w.alloc (.cells #[.int .i64 k, .int .i64 g, .int .i64 z, .slice A n c] 77)).alloc (.cells #[.int .i64 k, .int .i64 g, .int .i64 z, .slice A' n' c'] 77)) := ((Below.refl _ _).alloc (Nat.le_refl _) _).alloc (by simp) _
  obtain ⟨p0, p1, p2, p3⟩ := box4 w (.int .i64 k) (.int .i64 g) (.int .i64 z) (.slice A n c) 77
  obtain ⟨wa, hwa⟩ : ∃ wa, wa = w.alloc (.cells #[.int .i64 k, .int .i64 g, .int .i64 z, .slice A n c] 77) := ⟨_, rfl⟩
  have hwz : wa.heap.size = w.heap.size + 1 := by rw [hwa]; simp
  rw [← hwa] at p0 p1 p2 p3 hb1
  obtain ⟨q0, q1, q2, q3⟩ := box4 wa (.int .i64 k) (.int .i64 g) (.int .i64 z) (.slice A' n' c') 77
  obtain ⟨wb, hwb⟩ : ∃ wb, wb = wa.alloc (.cells #[.int .i64 k, .int .i64 g, .int .i64 z, .slice A' n' c'] 77) := ⟨_, rfl⟩
  have hab : Below wa.heap.size wa wb := by rw [hwb]; exact (Below.refl _ _).alloc (Nat.le_refl _) _
  rw [← hwb] at q0 q1 q2 q3 hb1
  rw [hwz] at q0 q1 q2 q3
  have hlt : w.heap.size < wa.heap.size := by omega
  have s0 := (hab.cell (p := ⟨w.heap.size, 0, none⟩) hlt).trans p0
  have s1 := (hab.cell (p := ⟨w.heap.size, 1, none⟩) hlt).trans p1
  have s2 := (hab.cell (p := ⟨w.heap.size, 2, none⟩) hlt).trans p2
  have s3 := (hab.cell (p := ⟨w.heap.size, 3, none⟩) hlt).trans p3
  clear p0 p1 p2 p3 hab hwz hlt
  go_enter Try.func56, Try.ntmps56
  go_wp2_with (go_at_call 72; rw [← hwa, ← hwb]; refine (H1.out _ hb1).mono ?_; rintro e w1 ⟨rfl, hc1⟩)
  go_ret
  exact ⟨rfl, hb1.trans (hc1.mono hb1.size)⟩

set_option maxRecDepth 20000 in
set_option maxHeartbeats 1000000 in
theorem walk (s : ByteArray) (w : World) (hs : s.size ≤ 1048575) :
    Calls Try.prog 13 #[.string s] w fun e w' => e = .returned (.bool true) ∧ Below w.heap.size w w' := by
  have H1 : Hid (∀ W, Calls Try.prog 54 #[.string s] W fun e w' => ∃ A n c, e = .returned (.tuple #[.agg #[.int .i64 (irK s), .int .i64 (irG s), .int .i64 (irS s), .slice A n c], .int .i64 (irE s)]) ∧ RowsIn w' w'.heap.size A n c PlaceD.cells 2 (irP s) ∧ Below W.heap.size W w') := fun W => iread_any s W hs
  have H2 : Hid (∀ W, Calls Try.prog 55 #[.string s] W fun e w' => ∃ A n c, e = .returned (.tuple #[.agg #[.int .i64 (irK s), .int .i64 (irG s), .int .i64 (irS s), .slice A n c], .int .i64 (irE s)]) ∧ RowsIn w' w'.heap.size A n c PlaceD.cells 2 (irP s) ∧ Below W.heap.size W w') := fun W => ireadr_any s W hs
  have HS : Hid (∀ (A : Option Addr) (n c : Nat) (A' : Option Addr) (n' c' : Nat) (W : World), RowsIn W W.heap.size A n c PlaceD.cells 2 (irP s) → RowsIn W W.heap.size A' n' c' PlaceD.cells 2 (irP s) → Calls Try.prog 56 #[.agg #[.int .i64 (irK s), .int .i64 (irG s), .int .i64 (irS s), .slice A n c], .agg #[.int .i64 (irK s), .int .i64 (irG s), .int .i64 (irS s), .slice A' n' c']] W fun e w' => e = .returned (.bool true) ∧ Below W.heap.size W w') := fun A n c A' n' c' W r r' => same_ino _ _ _ A n c A' n' c' _ W r r'
  generalize irK s = K at *
  generalize irG s = G at *
  generalize irS s = Z at *
  generalize irE s = E at *
  generalize irP s = X at *
  go_enter Try.func13, Try.ntmps13
  go_wp2_with (first
    | (go_at_call 54; refine (H1.out _).mono ?_; rintro e w1 ⟨A, n, c, rfl, r1, hb1⟩)
    | (go_at_call 55; refine (H2.out _).mono ?_; rintro e w2 ⟨A', n', c', rfl, r2, hb2⟩; obtain ⟨k0, k1, k2, k3, k4⟩ := kept4 hb2)
    | (go_at_call 56; refine (HS.out _ _ _ _ _ _ _ (carry_rows r1 hb2 _) (carry_new r2 _)).mono ?_; rintro e w3 ⟨rfl, hb3⟩))
  go_ret
  have hc := carry_below hb1 hb2
  exact ⟨rfl, (hc _).trans (hb3.mono (hc _).size)⟩
end Go.Proofs.Ytjopdenabmojpaa.lInodeReads
