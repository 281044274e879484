/- What go_region_held3 holds: k cells in old blocks, a floor for the heap's size, and Below; a draw and a call that leaves the old blocks keep it. -/
import Derived.Test.YtgidfmdbaimcnaaDoorOwn
import Derived.Deep.RegionHeld3
namespace Go.Proofs.YtgidfmdbaimcnaaDoor
open Go.RowKit
section
variable {w0 W W' : World} {N : Nat}
theorem keepc1d {a0 : Addr} {v0 : Value} (h : W.cell? a0 = some v0 ∧ N ≤ W.heap.size ∧ Below w0.heap.size w0 W) : W.drew.cell? a0 = some v0 ∧ N ≤ W.drew.heap.size ∧ Below w0.heap.size w0 W.drew := by
  obtain ⟨h0, hN, hw⟩ := h
  exact ⟨h0, hN, hw.drew⟩
theorem keepc1w {a0 : Addr} {v0 : Value} (h : W.cell? a0 = some v0 ∧ N ≤ W.heap.size ∧ Below w0.heap.size w0 W) : Below w0.heap.size w0 W := by
  obtain ⟨h0, hN, hw⟩ := h
  exact hw
theorem keepc1b {a0 : Addr} {v0 : Value} (b0 : a0.block < N) (h : W.cell? a0 = some v0 ∧ N ≤ W.heap.size ∧ Below w0.heap.size w0 W) (hb : Below W.heap.size W W') : W'.cell? a0 = some v0 ∧ N ≤ W'.heap.size ∧ Below w0.heap.size w0 W' := by
  obtain ⟨h0, hN, hw⟩ := h
  have hz := hb.size
  exact ⟨(hb.cell (p := a0) (by omega)).trans h0, by omega, hw.trans (hb.mono hw.size)⟩
theorem keepc2d {a0 a1 : Addr} {v0 v1 : Value} (h : W.cell? a0 = some v0 ∧ W.cell? a1 = some v1 ∧ N ≤ W.heap.size ∧ Below w0.heap.size w0 W) : W.drew.cell? a0 = some v0 ∧ W.drew.cell? a1 = some v1 ∧ N ≤ W.drew.heap.size ∧ Below w0.heap.size w0 W.drew := by
  obtain ⟨h0, h1, hN, hw⟩ := h
  exact ⟨h0, h1, hN, hw.drew⟩
theorem keepc2w {a0 a1 : Addr} {v0 v1 : Value} (h : W.cell? a0 = some v0 ∧ W.cell? a1 = some v1 ∧ N ≤ W.heap.size ∧ Below w0.heap.size w0 W) : Below w0.heap.size w0 W := by
  obtain ⟨h0, h1, hN, hw⟩ := h
  exact hw
theorem keepc2b {a0 a1 : Addr} {v0 v1 : Value} (b0 : a0.block < N) (b1 : a1.block < N) (h : W.cell? a0 = some v0 ∧ W.cell? a1 = some v1 ∧ N ≤ W.heap.size ∧ Below w0.heap.size w0 W) (hb : Below W.heap.size W W') : W'.cell? a0 = some v0 ∧ W'.cell? a1 = some v1 ∧ N ≤ W'.heap.size ∧ Below w0.heap.size w0 W' := by
  obtain ⟨h0, h1, hN, hw⟩ := h
  have hz := hb.size
  exact ⟨(hb.cell (p := a0) (by omega)).trans h0, (hb.cell (p := a1) (by omega)).trans h1, by omega, hw.trans (hb.mono hw.size)⟩
theorem keepc3d {a0 a1 a2 : Addr} {v0 v1 v2 : Value} (h : W.cell? a0 = some v0 ∧ W.cell? a1 = some v1 ∧ W.cell? a2 = some v2 ∧ N ≤ W.heap.size ∧ Below w0.heap.size w0 W) : W.drew.cell? a0 = some v0 ∧ W.drew.cell? a1 = some v1 ∧ W.drew.cell? a2 = some v2 ∧ N ≤ W.drew.heap.size ∧ Below w0.heap.size w0 W.drew := by
  obtain ⟨h0, h1, h2, hN, hw⟩ := h
  exact ⟨h0, h1, h2, hN, hw.drew⟩
theorem keepc3w {a0 a1 a2 : Addr} {v0 v1 v2 : Value} (h : W.cell? a0 = some v0 ∧ W.cell? a1 = some v1 ∧ W.cell? a2 = some v2 ∧ N ≤ W.heap.size ∧ Below w0.heap.size w0 W) : Below w0.heap.size w0 W := by
  obtain ⟨h0, h1, h2, hN, hw⟩ := h
  exact hw
theorem keepc3b {a0 a1 a2 : Addr} {v0 v1 v2 : Value} (b0 : a0.block < N) (b1 : a1.block < N) (b2 : a2.block < N) (h : W.cell? a0 = some v0 ∧ W.cell? a1 = some v1 ∧ W.cell? a2 = some v2 ∧ N ≤ W.heap.size ∧ Below w0.heap.size w0 W) (hb : Below W.heap.size W W') : W'.cell? a0 = some v0 ∧ W'.cell? a1 = some v1 ∧ W'.cell? a2 = some v2 ∧ N ≤ W'.heap.size ∧ Below w0.heap.size w0 W' := by
  obtain ⟨h0, h1, h2, hN, hw⟩ := h
  have hz := hb.size
  exact ⟨(hb.cell (p := a0) (by omega)).trans h0, (hb.cell (p := a1) (by omega)).trans h1, (hb.cell (p := a2) (by omega)).trans h2, by omega, hw.trans (hb.mono hw.size)⟩
theorem keepc4d {a0 a1 a2 a3 : Addr} {v0 v1 v2 v3 : Value} (h : W.cell? a0 = some v0 ∧ W.cell? a1 = some v1 ∧ W.cell? a2 = some v2 ∧ W.cell? a3 = some v3 ∧ N ≤ W.heap.size ∧ Below w0.heap.size w0 W) : W.drew.cell? a0 = some v0 ∧ W.drew.cell? a1 = some v1 ∧ W.drew.cell? a2 = some v2 ∧ W.drew.cell? a3 = some v3 ∧ N ≤ W.drew.heap.size ∧ Below w0.heap.size w0 W.drew := by
  obtain ⟨h0, h1, h2, h3, hN, hw⟩ := h
  exact ⟨h0, h1, h2, h3, hN, hw.drew⟩
theorem keepc4w {a0 a1 a2 a3 : Addr} {v0 v1 v2 v3 : Value} (h : W.cell? a0 = some v0 ∧ W.cell? a1 = some v1 ∧ W.cell? a2 = some v2 ∧ W.cell? a3 = some v3 ∧ N ≤ W.heap.size ∧ Below w0.heap.size w0 W) : Below w0.heap.size w0 W := by
  obtain ⟨h0, h1, h2, h3, hN, hw⟩ := h
  exact hw
theorem keepc4b {a0 a1 a2 a3 : Addr} {v0 v1 v2 v3 : Value} (b0 : a0.block < N) (b1 : a1.block < N) (b2 : a2.block < N) (b3 : a3.block < N) (h : W.cell? a0 = some v0 ∧ W.cell? a1 = some v1 ∧ W.cell? a2 = some v2 ∧ W.cell? a3 = some v3 ∧ N ≤ W.heap.size ∧ Below w0.heap.size w0 W) (hb : Below W.heap.size W W') : W'.cell? a0 = some v0 ∧ W'.cell? a1 = some v1 ∧ W'.cell? a2 = some v2 ∧ W'.cell? a3 = some v3 ∧ N ≤ W'.heap.size ∧ Below w0.heap.size w0 W' := by
  obtain ⟨h0, h1, h2, h3, hN, hw⟩ := h
  have hz := hb.size
  exact ⟨(hb.cell (p := a0) (by omega)).trans h0, (hb.cell (p := a1) (by omega)).trans h1, (hb.cell (p := a2) (by omega)).trans h2, (hb.cell (p := a3) (by omega)).trans h3, by omega, hw.trans (hb.mono hw.size)⟩
theorem keepc5d {a0 a1 a2 a3 a4 : Addr} {v0 v1 v2 v3 v4 : Value} (h : W.cell? a0 = some v0 ∧ W.cell? a1 = some v1 ∧ W.cell? a2 = some v2 ∧ W.cell? a3 = some v3 ∧ W.cell? a4 = some v4 ∧ N ≤ W.heap.size ∧ Below w0.heap.size w0 W) : W.drew.cell? a0 = some v0 ∧ W.drew.cell? a1 = some v1 ∧ W.drew.cell? a2 = some v2 ∧ W.drew.cell? a3 = some v3 ∧ W.drew.cell? a4 = some v4 ∧ N ≤ W.drew.heap.size ∧ Below w0.heap.size w0 W.drew := by
  obtain ⟨h0, h1, h2, h3, h4, hN, hw⟩ := h
  exact ⟨h0, h1, h2, h3, h4, hN, hw.drew⟩
theorem keepc5w {a0 a1 a2 a3 a4 : Addr} {v0 v1 v2 v3 v4 : Value} (h : W.cell? a0 = some v0 ∧ W.cell? a1 = some v1 ∧ W.cell? a2 = some v2 ∧ W.cell? a3 = some v3 ∧ W.cell? a4 = some v4 ∧ N ≤ W.heap.size ∧ Below w0.heap.size w0 W) : Below w0.heap.size w0 W := by
  obtain ⟨h0, h1, h2, h3, h4, hN, hw⟩ := h
  exact hw
theorem keepc5b {a0 a1 a2 a3 a4 : Addr} {v0 v1 v2 v3 v4 : Value} (b0 : a0.block < N) (b1 : a1.block < N) (b2 : a2.block < N) (b3 : a3.block < N) (b4 : a4.block < N) (h : W.cell? a0 = some v0 ∧ W.cell? a1 = some v1 ∧ W.cell? a2 = some v2 ∧ W.cell? a3 = some v3 ∧ W.cell? a4 = some v4 ∧ N ≤ W.heap.size ∧ Below w0.heap.size w0 W) (hb : Below W.heap.size W W') : W'.cell? a0 = some v0 ∧ W'.cell? a1 = some v1 ∧ W'.cell? a2 = some v2 ∧ W'.cell? a3 = some v3 ∧ W'.cell? a4 = some v4 ∧ N ≤ W'.heap.size ∧ Below w0.heap.size w0 W' := by
  obtain ⟨h0, h1, h2, h3, h4, hN, hw⟩ := h
  have hz := hb.size
  exact ⟨(hb.cell (p := a0) (by omega)).trans h0, (hb.cell (p := a1) (by omega)).trans h1, (hb.cell (p := a2) (by omega)).trans h2, (hb.cell (p := a3) (by omega)).trans h3, (hb.cell (p := a4) (by omega)).trans h4, by omega, hw.trans (hb.mono hw.size)⟩
theorem keepc6d {a0 a1 a2 a3 a4 a5 : Addr} {v0 v1 v2 v3 v4 v5 : Value} (h : W.cell? a0 = some v0 ∧ W.cell? a1 = some v1 ∧ W.cell? a2 = some v2 ∧ W.cell? a3 = some v3 ∧ W.cell? a4 = some v4 ∧ W.cell? a5 = some v5 ∧ N ≤ W.heap.size ∧ Below w0.heap.size w0 W) : W.drew.cell? a0 = some v0 ∧ W.drew.cell? a1 = some v1 ∧ W.drew.cell? a2 = some v2 ∧ W.drew.cell? a3 = some v3 ∧ W.drew.cell? a4 = some v4 ∧ W.drew.cell? a5 = some v5 ∧ N ≤ W.drew.heap.size ∧ Below w0.heap.size w0 W.drew := by
  obtain ⟨h0, h1, h2, h3, h4, h5, hN, hw⟩ := h
  exact ⟨h0, h1, h2, h3, h4, h5, hN, hw.drew⟩
theorem keepc6w {a0 a1 a2 a3 a4 a5 : Addr} {v0 v1 v2 v3 v4 v5 : Value} (h : W.cell? a0 = some v0 ∧ W.cell? a1 = some v1 ∧ W.cell? a2 = some v2 ∧ W.cell? a3 = some v3 ∧ W.cell? a4 = some v4 ∧ W.cell? a5 = some v5 ∧ N ≤ W.heap.size ∧ Below w0.heap.size w0 W) : Below w0.heap.size w0 W := by
  obtain ⟨h0, h1, h2, h3, h4, h5, hN, hw⟩ := h
  exact hw
theorem keepc6b {a0 a1 a2 a3 a4 a5 : Addr} {v0 v1 v2 v3 v4 v5 : Value} (b0 : a0.block < N) (b1 : a1.block < N) (b2 : a2.block < N) (b3 : a3.block < N) (b4 : a4.block < N) (b5 : a5.block < N) (h : W.cell? a0 = some v0 ∧ W.cell? a1 = some v1 ∧ W.cell? a2 = some v2 ∧ W.cell? a3 = some v3 ∧ W.cell? a4 = some v4 ∧ W.cell? a5 = some v5 ∧ N ≤ W.heap.size ∧ Below w0.heap.size w0 W) (hb : Below W.heap.size W W') : W'.cell? a0 = some v0 ∧ W'.cell? a1 = some v1 ∧ W'.cell? a2 = some v2 ∧ W'.cell? a3 = some v3 ∧ W'.cell? a4 = some v4 ∧ W'.cell? a5 = some v5 ∧ N ≤ W'.heap.size ∧ Below w0.heap.size w0 W' := by
  obtain ⟨h0, h1, h2, h3, h4, h5, hN, hw⟩ := h
  have hz := hb.size
  exact ⟨(hb.cell (p := a0) (by omega)).trans h0, (hb.cell (p := a1) (by omega)).trans h1, (hb.cell (p := a2) (by omega)).trans h2, (hb.cell (p := a3) (by omega)).trans h3, (hb.cell (p := a4) (by omega)).trans h4, (hb.cell (p := a5) (by omega)).trans h5, by omega, hw.trans (hb.mono hw.size)⟩
theorem keepc7d {a0 a1 a2 a3 a4 a5 a6 : Addr} {v0 v1 v2 v3 v4 v5 v6 : Value} (h : W.cell? a0 = some v0 ∧ W.cell? a1 = some v1 ∧ W.cell? a2 = some v2 ∧ W.cell? a3 = some v3 ∧ W.cell? a4 = some v4 ∧ W.cell? a5 = some v5 ∧ W.cell? a6 = some v6 ∧ N ≤ W.heap.size ∧ Below w0.heap.size w0 W) : W.drew.cell? a0 = some v0 ∧ W.drew.cell? a1 = some v1 ∧ W.drew.cell? a2 = some v2 ∧ W.drew.cell? a3 = some v3 ∧ W.drew.cell? a4 = some v4 ∧ W.drew.cell? a5 = some v5 ∧ W.drew.cell? a6 = some v6 ∧ N ≤ W.drew.heap.size ∧ Below w0.heap.size w0 W.drew := by
  obtain ⟨h0, h1, h2, h3, h4, h5, h6, hN, hw⟩ := h
  exact ⟨h0, h1, h2, h3, h4, h5, h6, hN, hw.drew⟩
theorem keepc7w {a0 a1 a2 a3 a4 a5 a6 : Addr} {v0 v1 v2 v3 v4 v5 v6 : Value} (h : W.cell? a0 = some v0 ∧ W.cell? a1 = some v1 ∧ W.cell? a2 = some v2 ∧ W.cell? a3 = some v3 ∧ W.cell? a4 = some v4 ∧ W.cell? a5 = some v5 ∧ W.cell? a6 = some v6 ∧ N ≤ W.heap.size ∧ Below w0.heap.size w0 W) : Below w0.heap.size w0 W := by
  obtain ⟨h0, h1, h2, h3, h4, h5, h6, hN, hw⟩ := h
  exact hw
theorem keepc7b {a0 a1 a2 a3 a4 a5 a6 : Addr} {v0 v1 v2 v3 v4 v5 v6 : Value} (b0 : a0.block < N) (b1 : a1.block < N) (b2 : a2.block < N) (b3 : a3.block < N) (b4 : a4.block < N) (b5 : a5.block < N) (b6 : a6.block < N) (h : W.cell? a0 = some v0 ∧ W.cell? a1 = some v1 ∧ W.cell? a2 = some v2 ∧ W.cell? a3 = some v3 ∧ W.cell? a4 = some v4 ∧ W.cell? a5 = some v5 ∧ W.cell? a6 = some v6 ∧ N ≤ W.heap.size ∧ Below w0.heap.size w0 W) (hb : Below W.heap.size W W') : W'.cell? a0 = some v0 ∧ W'.cell? a1 = some v1 ∧ W'.cell? a2 = some v2 ∧ W'.cell? a3 = some v3 ∧ W'.cell? a4 = some v4 ∧ W'.cell? a5 = some v5 ∧ W'.cell? a6 = some v6 ∧ N ≤ W'.heap.size ∧ Below w0.heap.size w0 W' := by
  obtain ⟨h0, h1, h2, h3, h4, h5, h6, hN, hw⟩ := h
  have hz := hb.size
  exact ⟨(hb.cell (p := a0) (by omega)).trans h0, (hb.cell (p := a1) (by omega)).trans h1, (hb.cell (p := a2) (by omega)).trans h2, (hb.cell (p := a3) (by omega)).trans h3, (hb.cell (p := a4) (by omega)).trans h4, (hb.cell (p := a5) (by omega)).trans h5, (hb.cell (p := a6) (by omega)).trans h6, by omega, hw.trans (hb.mono hw.size)⟩
theorem keepc8d {a0 a1 a2 a3 a4 a5 a6 a7 : Addr} {v0 v1 v2 v3 v4 v5 v6 v7 : Value} (h : W.cell? a0 = some v0 ∧ W.cell? a1 = some v1 ∧ W.cell? a2 = some v2 ∧ W.cell? a3 = some v3 ∧ W.cell? a4 = some v4 ∧ W.cell? a5 = some v5 ∧ W.cell? a6 = some v6 ∧ W.cell? a7 = some v7 ∧ N ≤ W.heap.size ∧ Below w0.heap.size w0 W) : W.drew.cell? a0 = some v0 ∧ W.drew.cell? a1 = some v1 ∧ W.drew.cell? a2 = some v2 ∧ W.drew.cell? a3 = some v3 ∧ W.drew.cell? a4 = some v4 ∧ W.drew.cell? a5 = some v5 ∧ W.drew.cell? a6 = some v6 ∧ W.drew.cell? a7 = some v7 ∧ N ≤ W.drew.heap.size ∧ Below w0.heap.size w0 W.drew := by
  obtain ⟨h0, h1, h2, h3, h4, h5, h6, h7, hN, hw⟩ := h
  exact ⟨h0, h1, h2, h3, h4, h5, h6, h7, hN, hw.drew⟩
theorem keepc8w {a0 a1 a2 a3 a4 a5 a6 a7 : Addr} {v0 v1 v2 v3 v4 v5 v6 v7 : Value} (h : W.cell? a0 = some v0 ∧ W.cell? a1 = some v1 ∧ W.cell? a2 = some v2 ∧ W.cell? a3 = some v3 ∧ W.cell? a4 = some v4 ∧ W.cell? a5 = some v5 ∧ W.cell? a6 = some v6 ∧ W.cell? a7 = some v7 ∧ N ≤ W.heap.size ∧ Below w0.heap.size w0 W) : Below w0.heap.size w0 W := by
  obtain ⟨h0, h1, h2, h3, h4, h5, h6, h7, hN, hw⟩ := h
  exact hw
theorem keepc8b {a0 a1 a2 a3 a4 a5 a6 a7 : Addr} {v0 v1 v2 v3 v4 v5 v6 v7 : Value} (b0 : a0.block < N) (b1 : a1.block < N) (b2 : a2.block < N) (b3 : a3.block < N) (b4 : a4.block < N) (b5 : a5.block < N) (b6 : a6.block < N) (b7 : a7.block < N) (h : W.cell? a0 = some v0 ∧ W.cell? a1 = some v1 ∧ W.cell? a2 = some v2 ∧ W.cell? a3 = some v3 ∧ W.cell? a4 = some v4 ∧ W.cell? a5 = some v5 ∧ W.cell? a6 = some v6 ∧ W.cell? a7 = some v7 ∧ N ≤ W.heap.size ∧ Below w0.heap.size w0 W) (hb : Below W.heap.size W W') : W'.cell? a0 = some v0 ∧ W'.cell? a1 = some v1 ∧ W'.cell? a2 = some v2 ∧ W'.cell? a3 = some v3 ∧ W'.cell? a4 = some v4 ∧ W'.cell? a5 = some v5 ∧ W'.cell? a6 = some v6 ∧ W'.cell? a7 = some v7 ∧ N ≤ W'.heap.size ∧ Below w0.heap.size w0 W' := by
  obtain ⟨h0, h1, h2, h3, h4, h5, h6, h7, hN, hw⟩ := h
  have hz := hb.size
  exact ⟨(hb.cell (p := a0) (by omega)).trans h0, (hb.cell (p := a1) (by omega)).trans h1, (hb.cell (p := a2) (by omega)).trans h2, (hb.cell (p := a3) (by omega)).trans h3, (hb.cell (p := a4) (by omega)).trans h4, (hb.cell (p := a5) (by omega)).trans h5, (hb.cell (p := a6) (by omega)).trans h6, (hb.cell (p := a7) (by omega)).trans h7, by omega, hw.trans (hb.mono hw.size)⟩
end
end Go.Proofs.YtgidfmdbaimcnaaDoor
