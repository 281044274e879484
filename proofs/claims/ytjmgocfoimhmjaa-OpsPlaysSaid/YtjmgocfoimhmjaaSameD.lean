/- linenref.SameDisk of two disks that read alike; facts carried through a statement: walked. -/
import Derived.Test.YtjmgocfoimhmjaaEqyStr
import Derived.Test.YtjmgocfoimhmjaaEqyPut
import Derived.Test.YtjmgocfoimhmjaaDiskW
import Derived.Test.YtjmgocfoimhmjaaBlk
namespace Go.Proofs.Ytjmgocfoimhmjaa
open Go.RowKit

set_option maxRecDepth 20000 in
set_option maxHeartbeats 1000000 in
theorem samed_any (A : Option Addr) (n c : Nat) (A' : Option Addr) (n' c' : Nat) (D : Option Addr) (m d : Nat) (D' : Option Addr) (m' d' : Nat) (cs : List ByteArray) (ws : List PutD) (w : World) (r : RowsIn w w.heap.size A n c (fun z => [.string z]) 1 cs) (r' : RowsIn w w.heap.size A' n' c' PutD.cells 2 ws) (q : RowsIn w w.heap.size D m d (fun z => [.string z]) 1 cs) (q' : RowsIn w w.heap.size D' m' d' PutD.cells 2 ws) :
    Calls Try.prog 25 #[.agg #[.slice A n c, .slice A' n' c'], .agg #[.slice D m d, .slice D' m' d']] w fun e w' => e = .returned (.bool true) ∧ Below w.heap.size w w' := by
  have H1 : Hid (∀ W, Below w.heap.size w W → Calls Try.prog 66 #[.slice A n c, .slice D m d] W fun e w' => e = .returned (.bool true) ∧ Below W.heap.size W w') := fun W h => eqyStr A n c cs D m d _ _ W (r.below h) (q.below h)
  have H2 : Hid (∀ W, Below w.heap.size w W → Calls Try.prog 67 #[.slice A' n' c', .slice D' m' d'] W fun e w' => e = .returned (.bool true) ∧ Below W.heap.size W w') := fun W h => eqyPut A' n' c' ws D' m' d' _ _ W (r'.below h) (q'.below h)
  clear r r' q q'
  have hb1 : Below w.heap.size w ((w.alloc (.cells #[.slice A n c, .slice A' n' c'] 41)).alloc (.cells #[.slice D m d, .slice D' m' d'] 41)) := ((Below.refl _ _).alloc (Nat.le_refl _) _).alloc (by simp) _
  obtain ⟨p0, p1⟩ := dbox2 w (.slice A n c) (.slice A' n' c') 41
  obtain ⟨wa, hwa⟩ : ∃ wa, wa = w.alloc (.cells #[.slice A n c, .slice A' n' c'] 41) := ⟨_, rfl⟩
  have hwz : wa.heap.size = w.heap.size + 1 := by rw [hwa]; simp
  rw [← hwa] at p0 p1 hb1
  obtain ⟨q0, q1⟩ := dbox2 wa (.slice D m d) (.slice D' m' d') 41
  obtain ⟨wb, hwb⟩ : ∃ wb, wb = wa.alloc (.cells #[.slice D m d, .slice D' m' d'] 41) := ⟨_, rfl⟩
  have hab : Below wa.heap.size wa wb := by rw [hwb]; exact (Below.refl _ _).alloc (Nat.le_refl _) _
  have hbz : wb.heap.size = w.heap.size + 2 := by rw [hwb]; simp; omega
  rw [← hwb] at q0 q1 hb1
  rw [hwz] at q0 q1
  have s0 := (hab.cell (p := ⟨w.heap.size, 0, none⟩) (show w.heap.size < wa.heap.size by omega)).trans p0
  have s1 := (hab.cell (p := ⟨w.heap.size, 1, none⟩) (show w.heap.size < wa.heap.size by omega)).trans p1
  clear p0 p1 hab
  have z0 : w.heap.size < wb.heap.size := by omega
  have z1 : w.heap.size + 1 < wb.heap.size := by omega
  clear hwz hbz
  go_enter Try.func25, Try.ntmps25
  go_wp2_with (first
    | (go_at_call 66; rw [← hwa, ← hwb]; refine (H1.out _ hb1).mono ?_; rintro e w1 ⟨rfl, hc1⟩; have t1 := (hc1.cell (p := ⟨w.heap.size, 1, none⟩) z0).trans s1; have t2 := (hc1.cell (p := ⟨w.heap.size + 1, 1, none⟩) z1).trans q1; have hb2 : Below w.heap.size w w1 := hb1.trans (hc1.mono hb1.size))
    | (go_at_call 67; refine (H2.out _ hb2).mono ?_; rintro e w2 ⟨rfl, hc2⟩))
  go_ret
  exact ⟨rfl, hb2.trans (hc2.mono hb2.size)⟩
/-- Eight cells, and all below H, carried on. -/
theorem keep8d {W W0 : World} {H : Nat} {a0 a1 a2 a3 a4 a5 a6 a7 : Addr} {v0 v1 v2 v3 v4 v5 v6 v7 : Value} (h : W.cell? a0 = some v0 ∧ W.cell? a1 = some v1 ∧ W.cell? a2 = some v2 ∧ W.cell? a3 = some v3 ∧ W.cell? a4 = some v4 ∧ W.cell? a5 = some v5 ∧ W.cell? a6 = some v6 ∧ W.cell? a7 = some v7 ∧ Below H W0 W ∧ H ≤ W.heap.size) : W.drew.cell? a0 = some v0 ∧ W.drew.cell? a1 = some v1 ∧ W.drew.cell? a2 = some v2 ∧ W.drew.cell? a3 = some v3 ∧ W.drew.cell? a4 = some v4 ∧ W.drew.cell? a5 = some v5 ∧ W.drew.cell? a6 = some v6 ∧ W.drew.cell? a7 = some v7 ∧ Below H W0 W.drew ∧ H ≤ W.drew.heap.size := ⟨h.1, h.2.1, h.2.2.1, h.2.2.2.1, h.2.2.2.2.1, h.2.2.2.2.2.1, h.2.2.2.2.2.2.1, h.2.2.2.2.2.2.2.1, h.2.2.2.2.2.2.2.2.1.drew, h.2.2.2.2.2.2.2.2.2⟩
theorem keep8b {W W' W0 : World} {H : Nat} {a0 a1 a2 a3 a4 a5 a6 a7 : Addr} {v0 v1 v2 v3 v4 v5 v6 v7 : Value} (hb : a0.block < H ∧ a1.block < H ∧ a2.block < H ∧ a3.block < H ∧ a4.block < H ∧ a5.block < H ∧ a6.block < H ∧ a7.block < H) (h : W.cell? a0 = some v0 ∧ W.cell? a1 = some v1 ∧ W.cell? a2 = some v2 ∧ W.cell? a3 = some v3 ∧ W.cell? a4 = some v4 ∧ W.cell? a5 = some v5 ∧ W.cell? a6 = some v6 ∧ W.cell? a7 = some v7 ∧ Below H W0 W ∧ H ≤ W.heap.size) (hw : Below W.heap.size W W') : W'.cell? a0 = some v0 ∧ W'.cell? a1 = some v1 ∧ W'.cell? a2 = some v2 ∧ W'.cell? a3 = some v3 ∧ W'.cell? a4 = some v4 ∧ W'.cell? a5 = some v5 ∧ W'.cell? a6 = some v6 ∧ W'.cell? a7 = some v7 ∧ Below H W0 W' ∧ H ≤ W'.heap.size := by
  obtain ⟨h0, h1, h2, h3, h4, h5, h6, h7, hB, hH⟩ := h
  obtain ⟨b0, b1, b2, b3, b4, b5, b6, b7⟩ := hb
  exact ⟨(hw.cell (p := a0) (Nat.lt_of_lt_of_le b0 hH)).trans h0, (hw.cell (p := a1) (Nat.lt_of_lt_of_le b1 hH)).trans h1, (hw.cell (p := a2) (Nat.lt_of_lt_of_le b2 hH)).trans h2, (hw.cell (p := a3) (Nat.lt_of_lt_of_le b3 hH)).trans h3, (hw.cell (p := a4) (Nat.lt_of_lt_of_le b4 hH)).trans h4, (hw.cell (p := a5) (Nat.lt_of_lt_of_le b5 hH)).trans h5, (hw.cell (p := a6) (Nat.lt_of_lt_of_le b6 hH)).trans h6, (hw.cell (p := a7) (Nat.lt_of_lt_of_le b7 hH)).trans h7, hB.trans (hw.mono hH), Nat.le_trans hH hw.size⟩
end Go.Proofs.Ytjmgocfoimhmjaa
