/- The law InodeSays, walked: it returns true for every inode and place. -/
import Derived.Test.YtjopdenabmojpaaInodeT
namespace Go.Proofs.Ytjopdenabmojpaa.lInodeSays
open Go.RowKit

theorem keep6d {w0 W : World} {B D : Nat} {v0 v1 v2 v3 u0 u1 : Value} (h : W.cell? ⟨B, 0, none⟩ = some v0 ∧ W.cell? ⟨B, 1, none⟩ = some v1 ∧ W.cell? ⟨B, 2, none⟩ = some v2 ∧ W.cell? ⟨B, 3, none⟩ = some v3 ∧ W.cell? ⟨D, 0, none⟩ = some u0 ∧ W.cell? ⟨D, 1, none⟩ = some u1 ∧ B < W.heap.size ∧ D < W.heap.size ∧ Below w0.heap.size w0 W) : W.drew.cell? ⟨B, 0, none⟩ = some v0 ∧ W.drew.cell? ⟨B, 1, none⟩ = some v1 ∧ W.drew.cell? ⟨B, 2, none⟩ = some v2 ∧ W.drew.cell? ⟨B, 3, none⟩ = some v3 ∧ W.drew.cell? ⟨D, 0, none⟩ = some u0 ∧ W.drew.cell? ⟨D, 1, none⟩ = some u1 ∧ B < W.drew.heap.size ∧ D < W.drew.heap.size ∧ Below w0.heap.size w0 W.drew := ⟨h.1, h.2.1, h.2.2.1, h.2.2.2.1, h.2.2.2.2.1, h.2.2.2.2.2.1, h.2.2.2.2.2.2.1, h.2.2.2.2.2.2.2.1, h.2.2.2.2.2.2.2.2.drew⟩
theorem keep6w {w0 W : World} {B D : Nat} {v0 v1 v2 v3 u0 u1 : Value} (h : W.cell? ⟨B, 0, none⟩ = some v0 ∧ W.cell? ⟨B, 1, none⟩ = some v1 ∧ W.cell? ⟨B, 2, none⟩ = some v2 ∧ W.cell? ⟨B, 3, none⟩ = some v3 ∧ W.cell? ⟨D, 0, none⟩ = some u0 ∧ W.cell? ⟨D, 1, none⟩ = some u1 ∧ B < W.heap.size ∧ D < W.heap.size ∧ Below w0.heap.size w0 W) : Below w0.heap.size w0 W := h.2.2.2.2.2.2.2.2
theorem keep6b {w0 W W' : World} {B D : Nat} {v0 v1 v2 v3 u0 u1 : Value} (h : W.cell? ⟨B, 0, none⟩ = some v0 ∧ W.cell? ⟨B, 1, none⟩ = some v1 ∧ W.cell? ⟨B, 2, none⟩ = some v2 ∧ W.cell? ⟨B, 3, none⟩ = some v3 ∧ W.cell? ⟨D, 0, none⟩ = some u0 ∧ W.cell? ⟨D, 1, none⟩ = some u1 ∧ B < W.heap.size ∧ D < W.heap.size ∧ Below w0.heap.size w0 W) (hb : Below W.heap.size W W') : W'.cell? ⟨B, 0, none⟩ = some v0 ∧ W'.cell? ⟨B, 1, none⟩ = some v1 ∧ W'.cell? ⟨B, 2, none⟩ = some v2 ∧ W'.cell? ⟨B, 3, none⟩ = some v3 ∧ W'.cell? ⟨D, 0, none⟩ = some u0 ∧ W'.cell? ⟨D, 1, none⟩ = some u1 ∧ B < W'.heap.size ∧ D < W'.heap.size ∧ Below w0.heap.size w0 W' := by
  obtain ⟨h0, h1, h2, h3, h4, h5, h6, h7, h8⟩ := h
  have hz := hb.size
  exact ⟨(hb.cell (p := ⟨B, 0, none⟩) h6).trans h0, (hb.cell (p := ⟨B, 1, none⟩) h6).trans h1, (hb.cell (p := ⟨B, 2, none⟩) h6).trans h2, (hb.cell (p := ⟨B, 3, none⟩) h6).trans h3, (hb.cell (p := ⟨D, 0, none⟩) h7).trans h4, (hb.cell (p := ⟨D, 1, none⟩) h7).trans h5, by omega, by omega, h8.trans (hb.mono h8.size)⟩

set_option maxRecDepth 20000 in
set_option maxHeartbeats 1000000 in
theorem walk (k : Int) (g : Int) (s : Int) (A : Option Addr) (n c : Nat) (xs : List PlaceD) (a1 : PlaceD) (w : World) (_w0_0 : (Lit.int .i64 k).wf = true) (_w0_1 : (Lit.int .i64 g).wf = true) (w0_2 : (Lit.int .i64 s).wf = true) (r : RowsIn w w.heap.size A n c PlaceD.cells 2 xs) (_o0_3 : ∀ z ∈ xs, PlaceD.ok z) (_s0_3 : c * 16 ≤ 140737488351232) (_w1 : a1.ok) :
    Calls Try.prog 12 #[.agg #[.int .i64 k, .int .i64 g, .int .i64 s, .slice A n c], .agg #[.int .i64 a1.Cell, .int .i64 a1.Nth]] w fun e w' => e = .returned (.bool true) ∧ Below w.heap.size w w' := by
  obtain ⟨hs0, hs1⟩ := wf_i64_bd w0_2
  clear _w0_0 _w0_1 w0_2 _o0_3 _s0_3 _w1
  obtain ⟨pc, pn⟩ := a1
  have H1 : Hid (∀ W, Below w.heap.size w W → Calls Try.prog 49 #[.agg #[.int .i64 k, .int .i64 g, .int .i64 s, .slice A n c]] W fun e w' => e = .returned (.tuple #[.string (strOfNums (inoS k g s xs)), .int .i64 (inoE k g s xs)]) ∧ Below W.heap.size W w') := fun W h => inow_any k g s A n c xs W hs0 hs1 ((r.below h).more h.size)
  have H2 : Hid (∀ W, Below w.heap.size w W → Calls Try.prog 50 #[.agg #[.int .i64 k, .int .i64 g, .int .i64 s, .slice A n c]] W fun e w' => e = .returned (.tuple #[.string (strOfNums (inoS k g s xs)), .int .i64 (inoE k g s xs)]) ∧ Below W.heap.size W w') := fun W h => inot_any k g s A n c xs W hs0 hs1 ((r.below h).more h.size)
  have H3 : Hid (∀ W, Below w.heap.size w W → Calls Try.prog 51 #[.agg #[.int .i64 k, .int .i64 g, .int .i64 s, .slice A n c]] W fun e w' => e = .returned (.int .i64 (inoE k g s xs)) ∧ Below W.heap.size W w') := fun W h => inoc_any k g s A n c xs W hs0 hs1 ((r.below h).more h.size)
  have H4 : Hid (∀ W, Below w.heap.size w W → Calls Try.prog 52 #[.agg #[.int .i64 k, .int .i64 g, .int .i64 s, .slice A n c]] W fun e w' => e = .returned (.int .i64 (inoE k g s xs)) ∧ Below W.heap.size W w') := fun W h => inor_any k g s A n c xs W hs0 hs1 ((r.below h).more h.size)
  have H5 : Hid (∀ W, Calls Try.prog 53 #[.agg #[.int .i64 pc, .int .i64 pn]] W fun e w' => e = .returned (.bool (rightB pc pn)) ∧ Below W.heap.size W w') := fun W => (right_any pc pn W).mono fun _ _ ⟨he, hw⟩ => ⟨he, hw ▸ (Below.refl _ _).alloc (Nat.le_refl _) _⟩
  have H6 : Hid (∀ W, Calls Try.prog 44 #[.agg #[.int .i64 pc, .int .i64 pn]] W fun e w' => e = .returned (.bool (rightB pc pn)) ∧ Below W.heap.size W w') := fun W => (rightr_any pc pn W).mono fun _ _ ⟨he, hw⟩ => ⟨he, hw ▸ (Below.refl _ _).alloc (Nat.le_refl _) _⟩
  generalize inoE k g s xs = ee at *
  generalize strOfNums (inoS k g s xs) = tt at *
  generalize rightB pc pn = rb at *
  clear r hs0 hs1
  obtain ⟨q0, q1, q2, q3⟩ := box4 w (.int .i64 k) (.int .i64 g) (.int .i64 s) (.slice A n c) 77
  have hwb : Below w.heap.size w (w.alloc (.cells #[.int .i64 k, .int .i64 g, .int .i64 s, .slice A n c] 77)) := (Below.refl _ _).alloc (Nat.le_refl _) _
  have hwz : (w.alloc (.cells #[.int .i64 k, .int .i64 g, .int .i64 s, .slice A n c] 77)).heap.size = w.heap.size + 1 := by simp
  obtain ⟨wa, hwa⟩ : ∃ wa, wa = w.alloc (.cells #[.int .i64 k, .int .i64 g, .int .i64 s, .slice A n c] 77) := ⟨_, rfl⟩
  rw [← hwa] at q0 q1 q2 q3 hwb hwz
  obtain ⟨p0, p1⟩ := box2' wa (.int .i64 pc) (.int .i64 pn) 63
  obtain ⟨wb, hwb2⟩ : ∃ wb, wb = wa.alloc (.cells #[.int .i64 pc, .int .i64 pn] 63) := ⟨_, rfl⟩
  rw [← hwb2] at p0 p1
  have hab : Below wa.heap.size wa wb := by rw [hwb2]; exact (Below.refl _ _).alloc (Nat.le_refl _) _
  have hbz : wb.heap.size = w.heap.size + 2 := by rw [hwb2]; simp; omega
  rw [hwz] at p0 p1
  have HS : wb.cell? ⟨w.heap.size, 0, none⟩ = some (.int .i64 k) ∧ wb.cell? ⟨w.heap.size, 1, none⟩ = some (.int .i64 g) ∧ wb.cell? ⟨w.heap.size, 2, none⟩ = some (.int .i64 s) ∧ wb.cell? ⟨w.heap.size, 3, none⟩ = some (.slice A n c) ∧ wb.cell? ⟨w.heap.size + 1, 0, none⟩ = some (.int .i64 pc) ∧ wb.cell? ⟨w.heap.size + 1, 1, none⟩ = some (.int .i64 pn) ∧ w.heap.size < wb.heap.size ∧ w.heap.size + 1 < wb.heap.size ∧ Below w.heap.size w wb :=
    ⟨(hab.cell (p := ⟨w.heap.size, 0, none⟩) (show w.heap.size < wa.heap.size by omega)).trans q0, (hab.cell (p := ⟨w.heap.size, 1, none⟩) (show w.heap.size < wa.heap.size by omega)).trans q1, (hab.cell (p := ⟨w.heap.size, 2, none⟩) (show w.heap.size < wa.heap.size by omega)).trans q2, (hab.cell (p := ⟨w.heap.size, 3, none⟩) (show w.heap.size < wa.heap.size by omega)).trans q3, p0, p1, by omega, by omega, hwb.trans (hab.mono (by omega))⟩
  clear q0 q1 q2 q3 p0 p1 hab hbz hwb
  go_enter Try.func12, Try.ntmps12
  go_wp2_with (first
    | (go_at_call 49; rw [← hwa, ← hwb2]; refine (H1.out _ HS.2.2.2.2.2.2.2.2).mono ?_; rintro e w1 ⟨rfl, hc1⟩; have HS1 := keep6b HS hc1; obtain ⟨y0, y1, y2, y3, y4, y5, y6, y7, y8⟩ := HS1)
    | (go_at_call 50; refine (H2.out _ y8).mono ?_; rintro e w2 ⟨rfl, hc2⟩))
  have HS2 := keep6b (keep6b HS hc1) hc2
  clear HS hwa hwb2 hc1 hc2 y0 y1 y2 y3 y4 y5 y6 y7 y8 H1 H2 hwz
  go_region_held3 (fun W => W.cell? ⟨w.heap.size, 0, none⟩ = some (.int .i64 k) ∧ W.cell? ⟨w.heap.size, 1, none⟩ = some (.int .i64 g) ∧ W.cell? ⟨w.heap.size, 2, none⟩ = some (.int .i64 s) ∧ W.cell? ⟨w.heap.size, 3, none⟩ = some (.slice A n c) ∧ W.cell? ⟨w.heap.size + 1, 0, none⟩ = some (.int .i64 pc) ∧ W.cell? ⟨w.heap.size + 1, 1, none⟩ = some (.int .i64 pn) ∧ w.heap.size < W.heap.size ∧ w.heap.size + 1 < W.heap.size ∧ Below w.heap.size w W)
    (first | assumption | exact keep6d (by assumption) | exact keep6b (by assumption) (by assumption))
    (first
    | (go_at_call 51; refine (H3.out _ ?_).mono ?_; (exact keep6w (by assumption)); rintro e w' ⟨rfl, hb⟩)
    | (go_at_call 52; refine (H4.out _ ?_).mono ?_; (exact keep6w (by assumption)); rintro e w' ⟨rfl, hb⟩)
    | (go_at_call 53; refine (H5.out _).mono ?_; rintro e w' ⟨rfl, hb⟩)
    | (go_at_call 44; refine (H6.out _).mono ?_; rintro e w' ⟨rfl, hb⟩))
  rename_i hHeld
  have hfin := keep6w hHeld
  clear hHeld HS2
  go_wp2
  go_ret
  exact ⟨rfl, hfin⟩
end Go.Proofs.Ytjopdenabmojpaa.lInodeSays
