/- num.Zig, num.Zag, their references and the law on them, walked: they return the zigzag numbers; nothing else turns. -/
import Derived.Test.YtepibmfpmnkhiaaBits
import Derived.Test.YtepibmfpmnkhiaaKit
import Derived.WalkSpells
import Derived.Lib.Hide
import Derived.WalkLawsBesides
namespace Go.Proofs.Ytepibmfpmnkhiaa
open Go.RowKit

set_option maxHeartbeats 400000 in
theorem zig_any (n : Int) (w : World) (hn : (Lit.int .i64 n).wf = true) :
    Calls Try.prog 15 #[.int .i64 n] w fun e w' => e = .returned (.int .u64 (zig n)) ∧ w = w' := by
  obtain ⟨h0, h1⟩ := wf_i64_bd hn
  rw [← zig_bits n h0 h1]
  clear hn h0 h1
  go_enter Try.func15, Try.ntmps15
  go_wp2
  go_ret
  exact ⟨rfl, rfl⟩

theorem ret_int {k : IntKind} {a b : Int} (h : a = b) : Ending.returned (.int k a) = .returned (.int k b) := by rw [h]
set_option maxHeartbeats 400000 in
theorem zigr_any (n : Int) (w : World) (hn : (Lit.int .i64 n).wf = true) :
    Calls Try.prog 16 #[.int .i64 n] w fun e w' => e = .returned (.int .u64 (zig n)) ∧ w = w' := by
  obtain ⟨h0, h1⟩ := wf_i64_bd hn
  clear hn
  by_cases h : 0 ≤ n
  all_goals
    go_enter Try.func16, Try.ntmps16
    go_wp2
    go_ret
    refine ⟨ret_int ?_, rfl⟩
    unfold zig
    split
  all_goals go_arith

set_option maxHeartbeats 400000 in
theorem zag_any (n : Int) (w : World) (hn : (Lit.int .u64 n).wf = true) :
    Calls Try.prog 17 #[.int .u64 n] w fun e w' => e = .returned (.int .i64 (zag n)) ∧ w = w' := by
  obtain ⟨h0, h1⟩ := wf_u64_bd hn
  clear hn
  go_enter Try.func17, Try.ntmps17
  go_wp2
  go_ret
  refine ⟨ret_int ?_, rfl⟩
  exact zag_bits n h0 h1

set_option maxHeartbeats 400000 in
theorem zagr_any (n : Int) (w : World) (hn : (Lit.int .u64 n).wf = true) :
    Calls Try.prog 18 #[.int .u64 n] w fun e w' => e = .returned (.int .i64 (zag n)) ∧ w = w' := by
  obtain ⟨h0, h1⟩ := wf_u64_bd hn
  clear hn
  by_cases h : n % 2 = 0
  all_goals
    go_enter Try.func18, Try.ntmps18
    go_wp2
    go_ret
    refine ⟨ret_int ?_, rfl⟩
    unfold zag
    split
  all_goals go_arith

set_option maxHeartbeats 400000 in
theorem lNumZigs.walk (a0 : Int) (a1 : Int) (w : World) (w0 : (Lit.int .i64 a0).wf = true) (w1 : (Lit.int .u64 a1).wf = true) :
    Calls Try.prog 4 #[.int .i64 a0, .int .u64 a1] w fun e w' => e = .returned (.bool true) ∧ Below w.heap.size w w' := by
  have H0 := Lib.hid w0
  have H1 := Lib.hid w1
  clear w0 w1
  go_enter Try.func4, Try.ntmps4
  go_wp2_with (first
    | (go_at_call 15; refine (zig_any _ _ H0.out).mono ?_; rintro e w' ⟨rfl, rfl⟩)
    | (go_at_call 16; refine (zigr_any _ _ H0.out).mono ?_; rintro e w' ⟨rfl, rfl⟩)
    | (go_at_call 17; refine (zag_any _ _ H1.out).mono ?_; rintro e w' ⟨rfl, rfl⟩)
    | (go_at_call 18; refine (zagr_any _ _ H1.out).mono ?_; rintro e w' ⟨rfl, rfl⟩))
  go_ret
  exact ⟨rfl, Below.refl _ _⟩
end Go.Proofs.Ytepibmfpmnkhiaa
