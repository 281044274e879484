/- The law FileWrites, walked: it returns true for every file, place and text. -/
import Derived.Test.YtfhgglghofhndaaFwsW
import Derived.Test.YtfhgglghofhndaaFwvW
namespace Go.Proofs.Ytfhgglghofhndaa.lFileWrites
open Go.RowKit

set_option maxRecDepth 20000 in
set_option maxHeartbeats 2000000 in
theorem walk (a0_0 : Int) (a0_1 : Option Addr) (n0_1 c0_1 : Nat) (x0_1 : List ByteArray) (a1 : Int) (a2 : ByteArray) (w : World) (_w0_0 : (Lit.int .i64 a0_0).wf = true) (r0_1 : RowsIn w w.heap.size a0_1 n0_1 c0_1 (fun z => [.string z]) 1 x0_1) (_o0_1 : ∀ z ∈ x0_1, (fun z => z.size ≤ maxLen) z) (_s0_1 : c0_1 * 16 ≤ 140737488351232) (_w1 : (Lit.int .i64 a1).wf = true) (_w2 : a2.size ≤ 140737488351232) :
    Calls Try.prog 5 #[.agg #[.int .i64 a0_0, .slice a0_1 n0_1 c0_1], .int .i64 a1, .string a2] w fun e w' => e = .returned (.bool true) ∧ Below w.heap.size w w' := by
  clear _w0_0 _o0_1 _s0_1 _w1 _w2
  obtain ⟨wa, hwa⟩ : ∃ wa, wa = w.alloc (.cells #[.int .i64 a0_0, .slice a0_1 n0_1 c0_1] 24) := ⟨_, rfl⟩
  have hba : Below w.heap.size w wa := by rw [hwa]; exact (Below.refl _ _).alloc (Nat.le_refl _) _
  have hrb : wa.heap[w.heap.size]? = some (.cells #[.int .i64 a0_0, .slice a0_1 n0_1 c0_1] 24 (0, 0)) := by rw [hwa]; exact heap_alloc_new w _
  have R := Lib.hid ((r0_1.below hba).more hba.size)
  have HC : Hid (∀ W, Below wa.heap.size wa W → W.cell? ⟨w.heap.size, 0, none⟩ = some (.int .i64 a0_0) ∧ W.cell? ⟨w.heap.size, 1, none⟩ = some (.slice a0_1 n0_1 c0_1)) := fun W h => dat_cells (row_below hrb (row_lt hrb) h)
  have H1 := Lib.hid (fwrite_any a0_0 a0_1 n0_1 c0_1 x0_1 a1 a2 wa R.out)
  have H2 : Hid (∀ W, Below wa.heap.size wa W → Calls Try.prog 21 #[.agg #[.int .i64 a0_0, .slice a0_1 n0_1 c0_1], .int .i64 a1, .string a2] W (FwPost a0_0 a1 a2 x0_1 W)) := fun W h => rwrite_any a0_0 a0_1 n0_1 c0_1 x0_1 a1 a2 W ((R.out.below h).more h.size)
  unfold FwPost at H1 H2
  have HWA := Lib.hid hwa
  have HBA := Lib.hid hba
  obtain ⟨c0, c1⟩ := dat_cells hrb
  clear r0_1 hba hrb hwa R
  generalize fwZ a0_0 a1 a2 x0_1 = Z at *
  generalize fwE a0_0 a1 a2 x0_1 = E at *
  generalize fwL a0_0 a1 a2 x0_1 = L at *
  go_enter Try.func5, Try.ntmps5
  go_wp2_with (first
    | (go_at_call 20; rw [← HWA.out]; refine H1.out.mono ?_; rintro e w1 ⟨D, q, d, rfl, r1, hb1⟩; have hn1 := heap_alloc_new w1 (.cells #[.int .i64 Z, .slice D q d] 24); have hb2 := hb1.alloc hb1.size (.cells #[.int .i64 Z, .slice D q d] 24); have HB2 := Lib.hid hb2; obtain ⟨k0, k1⟩ := HC.out _ hb2; have R1 : Hid (RowsIn (w1.alloc (.cells #[.int .i64 Z, .slice D q d] 24)) (w1.alloc (.cells #[.int .i64 Z, .slice D q d] 24)).heap.size D q d (fun z => [.string z]) 1 L) := carry_new r1 _; have HN1 := Lib.hid hn1; clear r1 hb1 hb2 hn1)
    | (go_at_call 21; refine (H2.out _ HB2.out).mono ?_; rintro e w3 ⟨D', q', d', rfl, r3, hb3⟩; have hn3 := heap_alloc_new w3 (.cells #[.int .i64 Z, .slice D' q' d'] 24); have hm3 := row_alloc (row_below HN1.out (row_lt HN1.out) hb3) (.cells #[.int .i64 Z, .slice D' q' d'] 24); have g0 := row_cell hm3 0; have g1 := row_cell hm3 1; have R3 : Hid (RowsIn (w3.alloc (.cells #[.int .i64 Z, .slice D' q' d'] 24)) (w3.alloc (.cells #[.int .i64 Z, .slice D' q' d'] 24)).heap.size D' q' d' (fun z => [.string z]) 1 L) := carry_new r3 _; have R4 : Hid (RowsIn (w3.alloc (.cells #[.int .i64 Z, .slice D' q' d'] 24)) (w3.alloc (.cells #[.int .i64 Z, .slice D' q' d'] 24)).heap.size D q d (fun z => [.string z]) 1 L) := carry_new ((R1.out.below hb3).more hb3.size) _; have HB3 : Hid (Below wa.heap.size wa (w3.alloc (.cells #[.int .i64 Z, .slice D' q' d'] 24))) := (HB2.out.trans (hb3.mono HB2.out.size)).alloc (Nat.le_trans HB2.out.size hb3.size) _; clear r3 hb3 hn3 hm3)
    | (go_at_call 19; refine (samedata_any Z D q d L D' q' d' _ R4.out R3.out).mono ?_; rintro e w5 ⟨rfl, hb5⟩))
  go_ret
  exact ⟨rfl, HBA.out.trans ((HB3.out.trans (hb5.mono HB3.out.size)).mono HBA.out.size)⟩
end Go.Proofs.Ytfhgglghofhndaa.lFileWrites
