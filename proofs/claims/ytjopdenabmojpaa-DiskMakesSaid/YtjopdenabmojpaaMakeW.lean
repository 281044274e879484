/- disk.Make and what slices.ContainsFunc says of its cells, walked. -/
import Derived.Test.YtjopdenabmojpaaDiskW
import Derived.Laws.MakeOwn
namespace Go.Proofs.Ytjopdenabmojpaa
open Go.RowKit

def emp : Value := .string ⟨#[]⟩
def empRow (N : Nat) : Array Value := Array.replicate N emp
abbrev zeroDisk : Array Value := #[.slice none 0 0, .slice none 0 0]
theorem info_disk : (Try.prog.info? 32).map (·.size) = some 2 := by kernel_rfl
theorem info_str : (Try.prog.info? 9).map (fun i => (i.zero, i.size, i.bytes)) = some (some emp, 1, 16) := by kernel_rfl
theorem mk_emp (N : Nat) (hN : N ≤ 128) : ∀ W : World, (Instr.makeSlice 29 (.int .i64 (N : Int)) (.int .i64 (N : Int))).run Try.prog W = .ok (.slice (some ⟨W.heap.size, 0, none⟩) N N) (W.alloc (.cells (empRow N) 9)) := fun W => by
  obtain ⟨i, hi, hzz⟩ := Option.map_eq_some_iff.1 info_str
  simp only [Prod.mk.injEq] at hzz
  obtain ⟨hz, hs, hbb⟩ := hzz
  have := run_make (P := Try.prog) W 29 9 i emp Try.underlying29 hi hz .i64 .i64 N N (by omega) (by omega) (by rw [hbb]; omega) (by omega)
  rw [hs] at this
  rw [this, Int.toNat_natCast]
  have e : madeCells emp.cells (N * 1) = empRow N := by
    apply Array.ext'
    rw [Nat.mul_one]
    unfold empRow
    rw [Array.toList_replicate]
    exact toList_madeCells_one _ _
  rw [e]
theorem emp_cell {W : World} {b N : Nat} {t : TypeId} (h : W.heap[b]? = some (.cells (empRow N) t (0, 0))) (k : Nat) (hk : k < N) : W.cell? ⟨b, k, none⟩ = some (.string ⟨#[]⟩) := by
  rw [row_cell h k]
  unfold empRow; rw [Array.getElem?_replicate, if_pos hk]; rfl

set_option maxRecDepth 20000 in
set_option maxHeartbeats 400000 in
theorem make_no (a : Int) (w : World) (h : a < 1 ∨ 128 < a) :
    Calls Try.prog 17 #[.int .i64 a] w fun e w' => e = .returned (.tuple #[.agg zeroDisk, .int .i64 1]) ∧ Below w.heap.size w w' := by
  rcases (show a < 1 ∨ (1 ≤ a ∧ 128 < a) by omega) with h1 | ⟨h1, h2⟩ <;> clear h
  · go_enter Try.func17, Try.ntmps17
    go_wp2
    refine bodyPost_ret (results_cell_tmp_row rfl _ _ w.heap.size _ zeroDisk (0, 0) _ rfl (heap_alloc_new w _) Try.underlying32 rfl info_disk) rfl ?_
    exact ⟨rfl, (Below.refl _ _).alloc (Nat.le_refl _) _⟩
  · go_enter Try.func17, Try.ntmps17
    go_wp2
    refine bodyPost_ret (results_cell_tmp_row rfl _ _ w.heap.size _ zeroDisk (0, 0) _ rfl (heap_alloc_new w _) Try.underlying32 rfl info_disk) rfl ?_
    exact ⟨rfl, (Below.refl _ _).alloc (Nat.le_refl _) _⟩

set_option maxRecDepth 20000 in
set_option maxHeartbeats 400000 in
theorem make_yes (N : Nat) (w : World) (h1 : 1 ≤ N) (h2 : N ≤ 128) :
    Calls Try.prog 17 #[.int .i64 (N : Int)] w fun e w' => ∃ b, e = .returned (.tuple #[.agg #[.slice (some ⟨b, 0, none⟩) N N, .slice none 0 0], .int .i64 0]) ∧ w'.heap[b]? = some (.cells (empRow N) 9) ∧ Below w.heap.size w w' := by
  have hmk := mk_emp N h2
  have i1 : (1 : Int) ≤ (N : Int) := by omega
  have i2 : (N : Int) ≤ 128 := by omega
  have hone : Hid ((#[.slice (some ⟨w.heap.size + 1, 0, none⟩) N N, .slice none 0 0] : Array Value).all (·.oneCell') = true) := by simp [Hid, Value.oneCell']
  go_enter Try.func17, Try.ntmps17
  go_wp2_with (refine wpList_store_rowTo rfl _ _ _ rfl rfl w.heap.size #[.slice (some ⟨w.heap.size + 1, 0, none⟩) N N, .slice none 0 0] rfl rfl 32 zeroDisk (heap_alloc2_old _ _ _) info_disk rfl hone.out ?_)
  refine bodyPost_ret (results_cell_tmp_row rfl _ _ w.heap.size _ #[.slice (some ⟨w.heap.size + 1, 0, none⟩) N N, .slice none 0 0] (0, 0) _ rfl (row_set (heap_alloc2_old _ _ _)) Try.underlying32 rfl info_disk) rfl ?_
  exact ⟨w.heap.size + 1, rfl, (setRow_other _ _ _ _ (by omega)).trans (heap_alloc2_new _ _ _), below_setRow (((Below.refl _ _).alloc (Nat.le_refl _) _).alloc (by simp) _) (Nat.le_refl _) _⟩

set_option maxHeartbeats 400000 in
theorem full_any (w : World) :
    Calls Try.prog 19 #[.string ⟨#[]⟩] w fun e w' => e = .returned (.bool false) ∧ w = w' := by
  go_enter Try.func19, Try.ntmps19
  go_wp2
  go_ret
  exact ⟨rfl, rfl⟩
set_option maxRecDepth 20000 in
set_option maxHeartbeats 400000 in
theorem idxf_any (b N : Nat) (w : World) (hN : N ≤ 128) (h : w.heap[b]? = some (.cells (empRow N) 9)) :
    Calls Try.prog 57 #[.slice (some ⟨b, 0, none⟩) N N, .func (.func 19) #[] #[]] w fun e w' => e = .returned (.int .i64 (-1)) ∧ w = w' := by
  have HC := Lib.hid (fun k hk => emp_cell h k hk)
  have HF := Lib.hid full_any
  clear h
  go_enter Try.func57, Try.ntmps57
  go_wp2
  go_loop [8] (fun v8 => ∃ k : Nat, k ≤ N ∧ v8 = .int .i64 k) (fun v8 => N - (intOf v8).toNat)
  case atStart => exact ⟨0, Nat.zero_le _, rfl⟩
  case round =>
    obtain ⟨k, hk, rfl⟩ := hrel
    by_cases hlt : k < N
    · have hc := HC.out k hlt
      go_wp2_with (go_at_call 19; refine (HF.out _).mono ?_; rintro e w' ⟨rfl, rfl⟩)
      go_round
      case rel => exact ⟨k + 1, by omega, by go_num⟩
      case measure => simp [intOf]; omega
    · go_wp2
      go_ret
      exact ⟨rfl, rfl⟩
set_option maxRecDepth 20000 in
set_option maxHeartbeats 400000 in
theorem contf_any (b N : Nat) (w : World) (hN : N ≤ 128) (h : w.heap[b]? = some (.cells (empRow N) 9)) :
    Calls Try.prog 18 #[.slice (some ⟨b, 0, none⟩) N N, .func (.func 19) #[] #[]] w fun e w' => e = .returned (.bool false) ∧ w = w' := by
  have H := Lib.hid (idxf_any b N w hN h)
  clear h
  go_enter Try.func18, Try.ntmps18
  go_wp2_with (go_at_call 57; refine H.out.mono ?_; rintro e w' ⟨rfl, rfl⟩)
  go_ret
  exact ⟨rfl, rfl⟩
end Go.Proofs.Ytjopdenabmojpaa
