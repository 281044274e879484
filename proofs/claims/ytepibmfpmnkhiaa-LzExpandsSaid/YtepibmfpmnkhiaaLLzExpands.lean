/- The law LzExpands, walked: it returns true for all marks. -/
import Derived.Test.YtepibmfpmnkhiaaLzR
import Derived.Deep.RegionHeld3
namespace Go.Proofs.Ytepibmfpmnkhiaa.lLzExpands
open Go.RowKit

theorem keep3 {w0 W : World} {B : Nat} {v0 v1 v2 : Value} (h : W.cell? ⟨B, 0, none⟩ = some v0 ∧ W.cell? ⟨B, 1, none⟩ = some v1 ∧ W.cell? ⟨B, 2, none⟩ = some v2 ∧ B < W.heap.size ∧ Below B w0 W) (o : Obj) :
    (W.alloc o).cell? ⟨B, 0, none⟩ = some v0 ∧ (W.alloc o).cell? ⟨B, 1, none⟩ = some v1 ∧ (W.alloc o).cell? ⟨B, 2, none⟩ = some v2 ∧ B < (W.alloc o).heap.size ∧ Below B w0 (W.alloc o) := by
  obtain ⟨h0, h1, h2, h3, h4⟩ := h
  refine ⟨?_, ?_, ?_, by simp; omega, h4.alloc (by omega) _⟩
  · rw [World.cell?_alloc_lt _ _ _ h3]; exact h0
  · rw [World.cell?_alloc_lt _ _ _ h3]; exact h1
  · rw [World.cell?_alloc_lt _ _ _ h3]; exact h2

theorem keep3d {w0 W : World} {B : Nat} {v0 v1 v2 : Value} (h : W.cell? ⟨B, 0, none⟩ = some v0 ∧ W.cell? ⟨B, 1, none⟩ = some v1 ∧ W.cell? ⟨B, 2, none⟩ = some v2 ∧ B < W.heap.size ∧ Below B w0 W) :
    W.drew.cell? ⟨B, 0, none⟩ = some v0 ∧ W.drew.cell? ⟨B, 1, none⟩ = some v1 ∧ W.drew.cell? ⟨B, 2, none⟩ = some v2 ∧ B < W.drew.heap.size ∧ Below B w0 W.drew := ⟨h.1, h.2.1, h.2.2.1, h.2.2.2.1, h.2.2.2.2.drew⟩

set_option maxHeartbeats 1000000 in
theorem walk (a0 : Option Addr) (n0 c0 : Nat) (x0 : List Mark) (a1 : Mark) (w : World) (r0 : RowsIn w w.heap.size a0 n0 c0 Mark.cells 3 x0) (o0 : ∀ z ∈ x0, Mark.ok z) (s0 : c0 * 24 ≤ 140737488351232) (w1 : a1.ok) :
    Calls Try.prog 11 #[.slice a0 n0 c0, .agg #[.int .i64 a1.Len, .int .i64 a1.Dist, .int .u8 a1.Byte]] w fun e w' => e = .returned (.bool true) ∧ Below w.heap.size w w' := by
  clear w1
  obtain ⟨a, d, by_⟩ := a1
  have hn : n0 ≤ 140737488355328 := by have := r0.le; omega
  obtain ⟨wa, hwa⟩ : ∃ wa, wa = w.alloc (.cells #[.int .i64 a, .int .i64 d, .int .u8 by_] 50) := ⟨_, rfl⟩
  have hws : w.heap.size ≤ wa.heap.size := by rw [hwa]; simp
  have hw1 : w.heap.size < wa.heap.size := by rw [hwa]; simp
  have hbw : Below w.heap.size w wa := by rw [hwa]; exact (Below.refl _ _).alloc (Nat.le_refl _) _
  have rw_ : ∀ w1, Below wa.heap.size wa w1 → RowsIn w1 w1.heap.size a0 n0 c0 Mark.cells 3 x0 := fun w1 h => (((r0.below hbw).more hws).below h).more h.size
  have H1 : ∀ w1 : World, Below wa.heap.size wa w1 → Calls Try.prog 35 #[.slice a0 n0 c0] w1 fun e w' => e = .returned (.tuple #[.string (strOfNums (expF [] x0).1), .int .i64 (expF [] x0).2]) ∧ Below wa.heap.size wa w' := fun w1 h =>
    (expand_any a0 n0 c0 x0 w1 (rw_ w1 h) o0 hn).mono fun _ _ ⟨he, hb⟩ => ⟨he, h.trans (hb.mono h.size)⟩
  have H2 : ∀ w1 : World, Below wa.heap.size wa w1 → Calls Try.prog 36 #[.slice a0 n0 c0] w1 fun e w' => e = .returned (.tuple #[.string (strOfNums (expF [] x0).1), .int .i64 (expF [] x0).2]) ∧ Below wa.heap.size wa w' := fun w1 h =>
    (expandr_any a0 n0 c0 x0 w1 (rw_ w1 h) o0 hn).mono fun _ _ ⟨he, hb⟩ => ⟨he, h.trans (hb.mono h.size)⟩
  generalize expF [] x0 = F at H1 H2
  obtain ⟨t, e⟩ := F
  generalize strOfNums t = st at H1 H2
  have hca : ∀ o, wa.cell? ⟨w.heap.size, o, none⟩ = #[Value.int .i64 a, .int .i64 d, .int .u8 by_][o]? := by
    intro o; rw [hwa]; unfold World.cell?; rw [heap_alloc_new w _]; rfl
  have hc0 := hca 0
  have hc1 := hca 1
  have hc2 := hca 2
  simp at hc0 hc1 hc2
  have L1 := Lib.hid H1
  have L2 := Lib.hid H2
  clear H1 H2 r0 o0 s0 hn rw_ hca
  generalize hm : markE ⟨a, d, by_⟩ = m
  go_enter Try.func11, Try.ntmps11
  go_wp2_with (first
    | (go_at_call 35; rw [← hwa]; refine (L1.out _ (Below.refl _ _)).mono ?_; rintro e w1 ⟨rfl, hb1⟩)
    | (go_at_call 36; refine (L2.out _ hb1).mono ?_; rintro e w2 ⟨rfl, hb2⟩))
  rw [← hb2.cell (p := ⟨w.heap.size, 0, none⟩) hw1] at hc0
  rw [← hb2.cell (p := ⟨w.heap.size, 1, none⟩) hw1] at hc1
  rw [← hb2.cell (p := ⟨w.heap.size, 2, none⟩) hw1] at hc2
  have hs2 := hb2.size
  have hsz : w.heap.size < w2.heap.size := by omega
  have hfin : Below w.heap.size w w2 := hbw.trans (hb2.mono hws)
  have HF := Lib.hid hfin
  clear hb1 hb2 hbw hfin L1 L2
  have HS : w2.cell? ⟨w.heap.size, 0, none⟩ = some (.int .i64 a) ∧ w2.cell? ⟨w.heap.size, 1, none⟩ = some (.int .i64 d) ∧ w2.cell? ⟨w.heap.size, 2, none⟩ = some (.int .u8 by_) ∧ w.heap.size < w2.heap.size ∧ Below w.heap.size w w2 := ⟨hc0, hc1, hc2, hsz, HF.out⟩
  clear hc0 hc1 hc2 hws hw1 hs2 HF hwa
  go_region_held3 (fun W => W.cell? ⟨w.heap.size, 0, none⟩ = some (.int .i64 a) ∧ W.cell? ⟨w.heap.size, 1, none⟩ = some (.int .i64 d) ∧ W.cell? ⟨w.heap.size, 2, none⟩ = some (.int .u8 by_) ∧ w.heap.size < W.heap.size ∧ Below w.heap.size w W)
    (first | assumption | exact keep3 (by assumption) _ | exact keep3d (by assumption))
    (first
    | (go_at_call 37; refine (check_any _ _ _ _).mono ?_; rintro e w' ⟨rfl, rfl⟩)
    | (go_at_call 38; refine (mark_any _ _ _ _).mono ?_; rintro e w' ⟨rfl, rfl⟩))
  rename_i hHeld
  have hfin := hHeld.2.2.2.2
  clear hHeld HS
  go_wp2
  go_ret
  exact ⟨rfl, hfin⟩
end Go.Proofs.Ytepibmfpmnkhiaa.lLzExpands
