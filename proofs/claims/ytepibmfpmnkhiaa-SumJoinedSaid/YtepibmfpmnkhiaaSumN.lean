/- (sum.matrix).twice and sum.Join, walked. -/
import Derived.Test.YtepibmfpmnkhiaaSumL
import Derived.Deep.MidRow
import Derived.Deep.RegionHeld3
import Derived.Deep.RegionHeldLaw
namespace Go.Proofs.Ytepibmfpmnkhiaa
open Go.RowKit

theorem under_mat : Try.prog.underlying 71 = some (.array 32 54) := by kernel_rfl
theorem info_mat (m : Nat → W32) (k : Nat) : (Try.prog.info? 71).map (·.size) = some (matTo m k).size := by rw [matTo_size]; kernel_rfl
theorem zero_mat (m : Nat → W32) : ∀ W : World, (zeroValue 71).run Try.prog W = .ok (.agg (matTo m 0)) W := fun W => by
  rw [matTo_zero]; kernel_rfl
theorem load_mat (b : Nat) (m : Nat → W32) : ∀ W : World, W.rangeAt b 0 (matTo m 32).toList → (Instr.loadAt 71 (.pointer (some ⟨b, 0, none⟩))).run Try.prog W = .ok (.agg (matTo m 32)) W := fun W h => by
  have := run_loadAt_mid (P := Try.prog) W b 0 71 (matTo m 32).toList _ h under_mat rfl (by rw [info_mat m 32]; simp)
  simpa using this
theorem range_of {W : World} {b : Nat} {cs : Array Value} {t : TypeId} (h : W.heap[b]? = some (.cells cs t (0, 0))) : W.rangeAt b 0 cs.toList := fun j v hv => by
  rw [Nat.zero_add, cell_of_row W b j cs t _ h]; simpa using hv

def keepS (w : World) (cs : List Value) (k : Nat) (v : Value) (W : World) : Prop := W.rangeAt w.heap.size 0 cs ∧ W.cell? ⟨w.heap.size, k, none⟩ = some v ∧ w.heap.size + 2 ≤ W.heap.size ∧ Below w.heap.size w W
section
variable {w W W' : World} {cs : List Value} {k : Nat} {v : Value}
theorem keepMd (h : W.rangeAt w.heap.size 0 cs ∧ W.cell? ⟨w.heap.size, k, none⟩ = some v ∧ w.heap.size + 2 ≤ W.heap.size ∧ Below w.heap.size w W) : W.drew.rangeAt w.heap.size 0 cs ∧ W.drew.cell? ⟨w.heap.size, k, none⟩ = some v ∧ w.heap.size + 2 ≤ W.drew.heap.size ∧ Below w.heap.size w W.drew := ⟨h.1, h.2.1, h.2.2.1, h.2.2.2.drew⟩
theorem keepMb (h : W.rangeAt w.heap.size 0 cs ∧ W.cell? ⟨w.heap.size, k, none⟩ = some v ∧ w.heap.size + 2 ≤ W.heap.size ∧ Below w.heap.size w W) (hb : Below W.heap.size W W') : W'.rangeAt w.heap.size 0 cs ∧ W'.cell? ⟨w.heap.size, k, none⟩ = some v ∧ w.heap.size + 2 ≤ W'.heap.size ∧ Below w.heap.size w W' := by
  obtain ⟨h1, h2, h3, h4⟩ := h
  have hz := hb.size
  exact ⟨fun j u hu => (hb.cell (p := ⟨w.heap.size, 0 + j, none⟩) (show w.heap.size < W.heap.size by omega)).trans (h1 j u hu), (hb.cell (p := ⟨w.heap.size, k, none⟩) (show w.heap.size < W.heap.size by omega)).trans h2, by omega, h4.trans (hb.mono h4.size)⟩
theorem keepMs (j : Nat) (u : Value) (h : W.rangeAt w.heap.size 0 cs ∧ W.cell? ⟨w.heap.size, k, none⟩ = some v ∧ w.heap.size + 2 ≤ W.heap.size ∧ Below w.heap.size w W) : (W.setCell ⟨w.heap.size + 1, j, none⟩ u).rangeAt w.heap.size 0 cs ∧ (W.setCell ⟨w.heap.size + 1, j, none⟩ u).cell? ⟨w.heap.size, k, none⟩ = some v ∧ w.heap.size + 2 ≤ (W.setCell ⟨w.heap.size + 1, j, none⟩ u).heap.size ∧ Below w.heap.size w (W.setCell ⟨w.heap.size + 1, j, none⟩ u) := by
  obtain ⟨h1, h2, h3, h4⟩ := h
  refine ⟨fun i x hx => ?_, ?_, by simpa [World.setCell] using h3, h4.setCell (by simp) u⟩
  · rw [World.cell?_setCell_other _ _ _ _ (fun e => by injection e with e _ _; omega)]; exact h1 i x hx
  · rw [World.cell?_setCell_other _ _ _ _ (fun e => by injection e with e _ _; omega)]; exact h2
end
set_option maxRecDepth 20000 in
set_option maxHeartbeats 1000000 in
theorem twice_any (m : Nat → W32) (w : World) :
    Calls Try.prog 54 #[.agg (matTo m 32)] w fun e w' => e = .returned (.agg (matTo (fun i => ofTo m (m i) 32) 32)) ∧ Below w.heap.size w w' := by
  obtain ⟨F, hF⟩ : ∃ F : Nat → W32, F = fun i => ofTo m (m i) 32 := ⟨_, rfl⟩
  have hz := zero_mat F
  rw [← hF]
  have HF := Lib.hid hF
  clear hF
  go_enter Try.func54, Try.ntmps54
  go_wp2
  clear hz
  go_loopw [4] (fun v4 wr => ∃ k : Nat, k ≤ 32 ∧ v4 = .int .i64 k ∧ Hid (wr.heap[w.heap.size]? = some (.cells (matTo m 32) 71 (0, 0))) ∧ Hid (wr.heap[w.heap.size + 1]? = some (.cells (matTo F k) 71 (0, 0))) ∧ Below w.heap.size w wr) (fun v4 _ => 32 - (intOf v4).toNat)
  case atStart => exact ⟨0, by omega, rfl, heap_alloc2_old _ _ _, heap_alloc2_new _ _ _, ((Below.refl _ _).alloc (Nat.le_refl _) _).alloc (by simp) _⟩
  case round =>
    obtain ⟨k, hk, rfl, hr1, hr2, hb⟩ := hrel
    by_cases hlt : k < 32
    · have h32 : (k : Int) < 32 := by omega
      have hc : wr.cell? ⟨w.heap.size, k, none⟩ = some (.int .u32 (v32 (m k))) := by
        rw [cell_of_row _ _ _ _ _ _ hr1.out, matTo_get _ _ _ hlt, if_pos hlt]; rfl
      have HS0 : wr.rangeAt w.heap.size 0 (matTo m 32).toList ∧ wr.cell? ⟨w.heap.size, k, none⟩ = some (.int .u32 (v32 (m k))) ∧ w.heap.size + 2 ≤ wr.heap.size ∧ Below w.heap.size w wr := ⟨range_of hr1.out, hc, by have := row_lt hr2.out; omega, hb⟩
      have hum := under_mat
      have him : (Try.prog.info? 71).map (·.size) = some (matTo m 32).toList.length := by rw [info_mat m 32]; simp
      have hlt2 := row_lt hr2.out
      have HV : Hid (v32 (ofTo m (m k) 32) = v32 (F k)) := by simp only [Hid]; rw [HF.out]
      have HC : Hid (∀ W, Calls Try.prog 53 #[.agg (matTo m 32), .int .u32 (v32 (m k))] W fun e w' => e = .returned (.int .u32 (v32 (F k))) ∧ Below W.heap.size W w') := fun W => by rw [← HV.out]; exact of_any m (m k) W
      have HC2 : Hid (∀ W, Calls Try.prog 53 #[.agg (matTo m 32).toList.toArray, .int .u32 (v32 (m k))] W fun e w' => e = .returned (.int .u32 (v32 (F k))) ∧ Below W.heap.size W w') := fun W => by rw [Array.toArray_toList]; exact HC.out W
      have HS := Lib.hid (matTo_set F k hlt)
      have HG : Hid ((matTo F k)[k]? = some (.int .u32 0)) := by simp only [Hid]; rw [matTo_get _ _ _ hlt, if_neg (Nat.lt_irrefl _)]
      clear hc
      go_wp2
      go_region_held3 (fun W => W.rangeAt w.heap.size 0 (matTo m 32).toList ∧ W.cell? ⟨w.heap.size, k, none⟩ = some (.int .u32 (v32 (m k))) ∧ w.heap.size + 2 ≤ W.heap.size ∧ Below w.heap.size w W)
        (first | assumption | exact keepMd (by assumption) | exact keepMb (by assumption) (by assumption) | exact keepMs _ _ (by assumption))
        (first
        | (go_at_call 53; refine (HC.out _).mono ?_; rintro e w2 ⟨rfl, hb2⟩; have hs2 := row_below (w := wr.drew) hr2.out hlt2 hb2; have hq2 := (row_cell hs2 k).trans HG.out; have hf2 := row_cold hs2 k)
        | (go_at_call 53; refine (HC2.out _).mono ?_; rintro e w2 ⟨rfl, hb2⟩; have hs2 := row_below (w := wr.drew) hr2.out hlt2 hb2; have hq2 := (row_cell hs2 k).trans HG.out; have hf2 := row_cold hs2 k))
      all_goals
        rename_i hHeld
        have hfin := hHeld.2.2.2
        have hr1' : Hid ((w2.setCell ⟨w.heap.size + 1, k, none⟩ (.int .u32 (v32 (F k)))).heap[w.heap.size]? = some (.cells (matTo m 32) 71 (0, 0))) := row_other (a := ⟨w.heap.size + 1, k, none⟩) (row_below (w := wr.drew) hr1.out (row_lt hr1.out) hb2) (show w.heap.size ≠ w.heap.size + 1 by omega)
        have hr2' : Hid ((w2.setCell ⟨w.heap.size + 1, k, none⟩ (.int .u32 (v32 (F k)))).heap[w.heap.size + 1]? = some (.cells (matTo F (k + 1)) 71 (0, 0))) := by
          have := row_store (j := k) (v := .int .u32 (v32 (F k))) hs2
          rw [show (Value.int .u32 (v32 (F k))) = matV F k from rfl, HS.out] at this
          exact this
        clear hHeld hs2 hq2 hf2 HS0 hum him HC HC2
        generalize w2.setCell ⟨w.heap.size + 1, k, none⟩ (.int .u32 (v32 (F k))) = w3 at *
        go_wp2
        go_roundw
        case rel => first | exact ⟨k + 1, by omega, by go_num, hr1', hr2', hfin⟩ | exact ⟨k + 1, by omega, by go_num⟩ | exact ⟨k + 1, by omega, by go_num, hfin⟩ | exact ⟨k + 1, by omega, by go_num, hr2'⟩ | exact ⟨k + 1, by omega, by go_num, hr2', hfin⟩ | exact ⟨k + 1, by omega, by go_num, hr1', hr2'⟩
        case measure => (simp [intOf]; try omega)
    · obtain rfl : k = 32 := by omega
      have hu := Lib.hid under_mat
      have hi := Lib.hid (info_mat F 32)
      have hone := Lib.hid (mat_one F 32)
      have hrow := hr2.out
      go_wp2_with (first
        | (refine wpList_load_row rfl _ _ rfl (w.heap.size + 1) rfl _ (matTo F 32) (0, 0) _ hrow hu.out rfl hi.out ?_)
        | (refine wpList_store_rowTo rfl _ _ _ rfl rfl (w.heap.size + 1) (matTo F 32) rfl rfl _ (matTo F 32) hrow hi.out rfl hone.out ?_; rw [setRow_self _ _ _ _ _ hrow]))
      refine bodyPost_ret (results_cell_row rfl _ _ _ _ _ _ _ rfl hrow hu.out rfl hi.out) rfl ?_
      exact ⟨rfl, hb⟩
end Go.Proofs.Ytepibmfpmnkhiaa
