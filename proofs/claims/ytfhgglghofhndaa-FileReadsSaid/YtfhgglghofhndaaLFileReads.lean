/- The law FileReads, walked: it returns true for every file and place. -/
import Derived.Test.YtfhgglghofhndaaFreadW
namespace Go.Proofs.Ytfhgglghofhndaa.lFileReads
open Go.RowKit

set_option maxRecDepth 20000 in
set_option maxHeartbeats 2000000 in
theorem walk (a0_0 : Int) (a0_1 : Option Addr) (n0_1 c0_1 : Nat) (x0_1 : List ByteArray) (a1 : Int) (a2 : Int) (w : World) (_w0_0 : (Lit.int .i64 a0_0).wf = true) (r0_1 : RowsIn w w.heap.size a0_1 n0_1 c0_1 (fun z => [.string z]) 1 x0_1) (_o0_1 : ∀ z ∈ x0_1, (fun z => z.size ≤ maxLen) z) (_s0_1 : c0_1 * 16 ≤ 140737488351232) (_w1 : (Lit.int .i64 a1).wf = true) (_w2 : (Lit.int .i64 a2).wf = true) :
    Calls Try.prog 3 #[.agg #[.int .i64 a0_0, .slice a0_1 n0_1 c0_1], .int .i64 a1, .int .i64 a2] w fun e w' => e = .returned (.bool true) ∧ Below w.heap.size w w' := by
  clear _w0_0 _o0_1 _s0_1 _w1 _w2
  obtain ⟨wa, hwa⟩ : ∃ wa, wa = w.alloc (.cells #[.int .i64 a0_0, .slice a0_1 n0_1 c0_1] 24) := ⟨_, rfl⟩
  have hba : Below w.heap.size w wa := by rw [hwa]; exact (Below.refl _ _).alloc (Nat.le_refl _) _
  have hrb : wa.heap[w.heap.size]? = some (.cells #[.int .i64 a0_0, .slice a0_1 n0_1 c0_1] 24 (0, 0)) := by rw [hwa]; exact heap_alloc_new w _
  have hlt0 : w.heap.size < wa.heap.size := by rw [hwa]; simp
  have R := Lib.hid ((r0_1.below hba).more hba.size)
  have HC : Hid (∀ W, Below wa.heap.size wa W → W.cell? ⟨w.heap.size, 0, none⟩ = some (.int .i64 a0_0) ∧ W.cell? ⟨w.heap.size, 1, none⟩ = some (.slice a0_1 n0_1 c0_1)) := fun W h => dat_cells (row_below hrb (row_lt hrb) h)
  have H1 := Lib.hid (fread_any a0_0 a0_1 n0_1 c0_1 x0_1 a1 a2 wa R.out)
  have H2 : Hid (∀ W, Below wa.heap.size wa W → Calls Try.prog 14 #[.agg #[.int .i64 a0_0, .slice a0_1 n0_1 c0_1], .int .i64 a1, .int .i64 a2] W (FrPost a0_0 a1 a2 x0_1 W)) := fun W h => rread_any a0_0 a0_1 n0_1 c0_1 x0_1 a1 a2 W ((R.out.below h).more h.size)
  have H3 : Hid (∀ W, Below wa.heap.size wa W → Calls Try.prog 15 #[.agg #[.int .i64 a0_0, .slice a0_1 n0_1 c0_1]] W fun e w' => e = .returned (.int .i64 (datE a0_0 x0_1)) ∧ Below W.heap.size W w') := fun W h => fcheck_any a0_0 a0_1 n0_1 c0_1 x0_1 W ((R.out.below h).more h.size)
  have H4 : Hid (∀ W, Below wa.heap.size wa W → Calls Try.prog 16 #[.agg #[.int .i64 a0_0, .slice a0_1 n0_1 c0_1]] W fun e w' => e = .returned (.int .i64 (datE a0_0 x0_1)) ∧ Below W.heap.size W w') := fun W h => rdata_any a0_0 a0_1 n0_1 c0_1 x0_1 W ((R.out.below h).more h.size)
  unfold FrPost at H1 H2
  have HWA := Lib.hid hwa
  have HBA := Lib.hid hba
  obtain ⟨c0, c1⟩ := dat_cells hrb
  clear r0_1 hba hrb hwa
  generalize frS a0_0 a1 a2 x0_1 = S at *
  generalize frE a0_0 a1 a2 x0_1 = E at *
  generalize datE a0_0 x0_1 = D at *
  go_enter Try.func3, Try.ntmps3
  go_upto_region 3 with (first
    | (go_at_call 13; rw [← HWA.out]; refine H1.out.mono ?_; rintro e w1 ⟨rfl, hb1⟩; have HB1 := Lib.hid hb1; obtain ⟨k0, k1⟩ := HC.out _ hb1; clear hb1)
    | (go_at_call 14; refine (H2.out _ HB1.out).mono ?_; rintro e w2 ⟨rfl, hb2⟩; have hb3 := HB1.out.trans (hb2.mono HB1.out.size); obtain ⟨g0, g1⟩ := HC.out _ hb3; have hS : w2.cell? ⟨w.heap.size, 0, none⟩ = some (.int .i64 a0_0) ∧ w2.cell? ⟨w.heap.size, 1, none⟩ = some (.slice a0_1 n0_1 c0_1) ∧ wa.heap.size ≤ w2.heap.size ∧ Below wa.heap.size wa w2 := ⟨g0, g1, hb3.size, hb3⟩; clear hb2 hb3))
  go_region_held3 (fun W => W.cell? ⟨w.heap.size, 0, none⟩ = some (.int .i64 a0_0) ∧ W.cell? ⟨w.heap.size, 1, none⟩ = some (.slice a0_1 n0_1 c0_1) ∧ wa.heap.size ≤ W.heap.size ∧ Below wa.heap.size wa W)
    (first | assumption | exact keepc2d (by assumption) | exact keepc2b hlt0 hlt0 (by assumption) (by assumption))
    (first
      | (go_at_call 15; refine (H3.out _ (keepc2w (by assumption))).mono ?_; rintro e w' ⟨rfl, hb⟩)
      | (go_at_call 16; refine (H4.out _ (keepc2w (by assumption))).mono ?_; rintro e w' ⟨rfl, hb⟩))
  all_goals
    rename_i hHeld
    have hfin := keepc2w hHeld
    go_wp2
    go_ret
    exact ⟨rfl, HBA.out.trans (hfin.mono HBA.out.size)⟩
end Go.Proofs.Ytfhgglghofhndaa.lFileReads
