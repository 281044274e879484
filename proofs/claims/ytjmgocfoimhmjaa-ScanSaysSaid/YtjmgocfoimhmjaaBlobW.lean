/- blob.Check and linenref.Blob, walked. -/
import Derived.Test.YtjmgocfoimhmjaaBlobP
import Derived.Test.YtjmgocfoimhmjaaBlk
import Derived.WalkSpells
import Derived.Lib.Hide
namespace Go.Proofs.Ytjmgocfoimhmjaa
open Go.RowKit Go.PlainAid

theorem bbox4 (w : World) (v0 v1 v2 v3 : Value) (t : TypeId) : (w.alloc (.cells #[v0, v1, v2, v3] t)).cell? ⟨w.heap.size, 0, none⟩ = some v0 ∧ (w.alloc (.cells #[v0, v1, v2, v3] t)).cell? ⟨w.heap.size, 1, none⟩ = some v1 ∧ (w.alloc (.cells #[v0, v1, v2, v3] t)).cell? ⟨w.heap.size, 2, none⟩ = some v2 ∧ (w.alloc (.cells #[v0, v1, v2, v3] t)).cell? ⟨w.heap.size, 3, none⟩ = some v3 := by
  refine ⟨?_, ?_, ?_, ?_⟩ <;> (unfold World.cell?; rw [heap_alloc_new w _]; rfl)

set_option maxRecDepth 20000 in
set_option maxHeartbeats 1000000 in
theorem bchk_any (k i n : Int) (t : ByteArray) (w : World) :
    Calls Try.prog 93 #[.agg #[.int .i64 k, .int .i64 i, .int .i64 n, .string t]] w fun e w' => e = .returned (.int .i64 (blbE k i n t)) ∧ Below w.heap.size w w' := by
  have hkc : k = 1 ∨ k = 2 ∨ k = 3 ∨ k < 1 ∨ 3 < k := by omega
  have hwb : Below w.heap.size w (w.alloc (.cells #[.int .i64 k, .int .i64 i, .int .i64 n, .string t] 71)) := (Below.refl _ _).alloc (Nat.le_refl _) _
  rcases (show i < 0 ∨ (0 ≤ i ∧ 47 < i) ∨ (0 ≤ i ∧ i ≤ 47) by omega) with hi | ⟨hi0, hi⟩ | ⟨hi0, hi⟩
  · clear hkc
    have F := Lib.hid (blbE_bad (k := k) (i := i) (n := n) (t := t) (by rintro ⟨q0, q1, q2⟩; omega))
    go_enter Try.func93, Try.ntmps93
    go_wp2
    all_goals (go_ret; exact ⟨ret_i1 F.out.symm, hwb⟩)
  · clear hkc
    have F := Lib.hid (blbE_bad (k := k) (i := i) (n := n) (t := t) (by rintro ⟨q0, q1, q2⟩; omega))
    have hi2 : (48 : Int) ≤ i := by omega
    go_enter Try.func93, Try.ntmps93
    go_wp2
    all_goals (go_ret; exact ⟨ret_i1 F.out.symm, hwb⟩)
  · have hi2 : i < (48 : Int) := by omega
    rcases hkc with rfl | rfl | rfl | hk | hk
    · rcases (show n < 0 ∨ (0 ≤ n ∧ 7 < n) ∨ (0 ≤ n ∧ n ≤ 7) by omega) with hn | ⟨hn0, hn⟩ | ⟨hn0, hn⟩
      · skip
        have F := Lib.hid (blbE_bad (k := 1) (i := i) (n := n) (t := t) (by rintro ⟨q0, q1, q2⟩; omega))
        go_enter Try.func93, Try.ntmps93
        go_wp2
        all_goals (go_ret; exact ⟨ret_i1 F.out.symm, hwb⟩)
      · skip
        have F := Lib.hid (blbE_bad (k := 1) (i := i) (n := n) (t := t) (by rintro ⟨q0, q1, q2⟩; omega))
        have hn2 : (8 : Int) ≤ n := by omega
        go_enter Try.func93, Try.ntmps93
        go_wp2
        all_goals (go_ret; exact ⟨ret_i1 F.out.symm, hwb⟩)
      · have hn2 : n < (8 : Int) := by omega
        by_cases hz : 600 < t.size
        · have F := Lib.hid (blbE_large (k := 1) (i := i) (n := n) (t := t) ⟨hi0, hi, .inl ⟨rfl, hn0, hn⟩⟩ hz)
          have hz1 : (600 : Int) < (t.size : Int) := by omega
          go_enter Try.func93, Try.ntmps93
          go_wp2
          go_ret
          exact ⟨ret_i1 F.out.symm, hwb⟩
        · have F := Lib.hid (blbE_ok (k := 1) (i := i) (n := n) (t := t) ⟨hi0, hi, .inl ⟨rfl, hn0, hn⟩⟩ hz)
          have hz1 : (t.size : Int) ≤ 600 := by omega
          go_enter Try.func93, Try.ntmps93
          go_wp2
          go_ret
          exact ⟨ret_i1 F.out.symm, hwb⟩
    · rcases (show n < 0 ∨ 0 < n ∨ n = 0 by omega) with hn | hn | rfl
      · skip
        have F := Lib.hid (blbE_bad (k := 2) (i := i) (n := n) (t := t) (by rintro ⟨q0, q1, q2⟩; omega))
        have hn2 : (n != 0) = true := by rw [bne_iff_ne]; omega
        go_enter Try.func93, Try.ntmps93
        go_wp2
        all_goals (go_ret; exact ⟨ret_i1 F.out.symm, hwb⟩)
      · skip
        have F := Lib.hid (blbE_bad (k := 2) (i := i) (n := n) (t := t) (by rintro ⟨q0, q1, q2⟩; omega))
        have hn2 : (n != 0) = true := by rw [bne_iff_ne]; omega
        have hn3 : (0 : Int) ≤ n := by omega
        go_enter Try.func93, Try.ntmps93
        go_wp2
        all_goals (go_ret; exact ⟨ret_i1 F.out.symm, hwb⟩)
      · skip
        by_cases hz : 600 < t.size
        · have F := Lib.hid (blbE_large (k := 2) (i := i) (n := 0) (t := t) ⟨hi0, hi, .inr (.inl ⟨rfl, rfl⟩)⟩ hz)
          have hz1 : (600 : Int) < (t.size : Int) := by omega
          go_enter Try.func93, Try.ntmps93
          go_wp2
          go_ret
          exact ⟨ret_i1 F.out.symm, hwb⟩
        · have F := Lib.hid (blbE_ok (k := 2) (i := i) (n := 0) (t := t) ⟨hi0, hi, .inr (.inl ⟨rfl, rfl⟩)⟩ hz)
          have hz1 : (t.size : Int) ≤ 600 := by omega
          go_enter Try.func93, Try.ntmps93
          go_wp2
          go_ret
          exact ⟨ret_i1 F.out.symm, hwb⟩
    · rcases (show n < 0 ∨ 0 < n ∨ n = 0 by omega) with hn | hn | rfl
      · skip
        have F := Lib.hid (blbE_bad (k := 3) (i := i) (n := n) (t := t) (by rintro ⟨q0, q1, q2⟩; omega))
        have hn2 : (n != 0) = true := by rw [bne_iff_ne]; omega
        go_enter Try.func93, Try.ntmps93
        go_wp2
        all_goals (go_ret; exact ⟨ret_i1 F.out.symm, hwb⟩)
      · skip
        have F := Lib.hid (blbE_bad (k := 3) (i := i) (n := n) (t := t) (by rintro ⟨q0, q1, q2⟩; omega))
        have hn2 : (n != 0) = true := by rw [bne_iff_ne]; omega
        have hn3 : (0 : Int) ≤ n := by omega
        go_enter Try.func93, Try.ntmps93
        go_wp2
        all_goals (go_ret; exact ⟨ret_i1 F.out.symm, hwb⟩)
      · by_cases ht : t.size = 0
        · obtain rfl := empty_of_size ht
          have F := Lib.hid (blbE_ok (k := 3) (i := i) (n := 0) (t := ⟨#[]⟩) ⟨hi0, hi, .inr (.inr ⟨rfl, rfl, rfl⟩)⟩ (by decide))
          clear ht
          go_enter Try.func93, Try.ntmps93
          go_wp2
          go_ret
          exact ⟨ret_i1 F.out.symm, hwb⟩
        · have t1 := empty_ne ht
          have t2 := empty_ne' ht
          have F := Lib.hid (blbE_bad (k := 3) (i := i) (n := 0) (t := t) (by rintro ⟨q0, q1, q2⟩; omega))
          clear ht
          go_enter Try.func93, Try.ntmps93
          go_wp2
          all_goals (go_ret; exact ⟨ret_i1 F.out.symm, hwb⟩)
    · have k1 : (k == 1) = false := by rw [beq_eq_false_iff_ne]; omega
      have k2 : (k == 2) = false := by rw [beq_eq_false_iff_ne]; omega
      have k3 : (k == 3) = false := by rw [beq_eq_false_iff_ne]; omega
      have F := Lib.hid (blbE_bad (k := k) (i := i) (n := n) (t := t) (by rintro ⟨q0, q1, q2⟩; omega))
      go_enter Try.func93, Try.ntmps93
      go_wp2
      all_goals (go_ret; exact ⟨ret_i1 F.out.symm, hwb⟩)
    · have k1 : (k == 1) = false := by rw [beq_eq_false_iff_ne]; omega
      have k2 : (k == 2) = false := by rw [beq_eq_false_iff_ne]; omega
      have k3 : (k == 3) = false := by rw [beq_eq_false_iff_ne]; omega
      have k4 : (1 : Int) ≤ k := by omega
      have F := Lib.hid (blbE_bad (k := k) (i := i) (n := n) (t := t) (by rintro ⟨q0, q1, q2⟩; omega))
      go_enter Try.func93, Try.ntmps93
      go_wp2
      all_goals (go_ret; exact ⟨ret_i1 F.out.symm, hwb⟩)

set_option maxRecDepth 20000 in
set_option maxHeartbeats 1000000 in
theorem blbr_any (k i n : Int) (t : ByteArray) (w : World) :
    Calls Try.prog 107 #[.agg #[.int .i64 k, .int .i64 i, .int .i64 n, .string t]] w fun e w' => e = .returned (.int .i64 (blbE k i n t)) ∧ Below w.heap.size w w' := by
  have hkc : k = 1 ∨ k = 2 ∨ k = 3 ∨ k < 1 ∨ 3 < k := by omega
  have hwb : Below w.heap.size w (w.alloc (.cells #[.int .i64 k, .int .i64 i, .int .i64 n, .string t] 71)) := (Below.refl _ _).alloc (Nat.le_refl _) _
  rcases (show i < 0 ∨ (0 ≤ i ∧ 47 < i) ∨ (0 ≤ i ∧ i ≤ 47) by omega) with hi | ⟨hi0, hi⟩ | ⟨hi0, hi⟩
  · clear hkc
    have F := Lib.hid (blbE_bad (k := k) (i := i) (n := n) (t := t) (by rintro ⟨q0, q1, q2⟩; omega))
    go_enter Try.func107, Try.ntmps107
    go_wp2
    all_goals (go_ret; exact ⟨ret_i1 F.out.symm, hwb⟩)
  · clear hkc
    have F := Lib.hid (blbE_bad (k := k) (i := i) (n := n) (t := t) (by rintro ⟨q0, q1, q2⟩; omega))
    have hi2 : (48 : Int) ≤ i := by omega
    go_enter Try.func107, Try.ntmps107
    go_wp2
    all_goals (go_ret; exact ⟨ret_i1 F.out.symm, hwb⟩)
  · have hi2 : i < (48 : Int) := by omega
    rcases hkc with rfl | rfl | rfl | hk | hk
    · rcases (show n < 0 ∨ (0 ≤ n ∧ 7 < n) ∨ (0 ≤ n ∧ n ≤ 7) by omega) with hn | ⟨hn0, hn⟩ | ⟨hn0, hn⟩
      · skip
        have F := Lib.hid (blbE_bad (k := 1) (i := i) (n := n) (t := t) (by rintro ⟨q0, q1, q2⟩; omega))
        go_enter Try.func107, Try.ntmps107
        go_wp2
        all_goals (go_ret; exact ⟨ret_i1 F.out.symm, hwb⟩)
      · skip
        have F := Lib.hid (blbE_bad (k := 1) (i := i) (n := n) (t := t) (by rintro ⟨q0, q1, q2⟩; omega))
        have hn2 : (8 : Int) ≤ n := by omega
        go_enter Try.func107, Try.ntmps107
        go_wp2
        all_goals (go_ret; exact ⟨ret_i1 F.out.symm, hwb⟩)
      · have hn2 : n < (8 : Int) := by omega
        by_cases hz : 600 < t.size
        · have F := Lib.hid (blbE_large (k := 1) (i := i) (n := n) (t := t) ⟨hi0, hi, .inl ⟨rfl, hn0, hn⟩⟩ hz)
          have hz1 : (600 : Int) < (t.size : Int) := by omega
          go_enter Try.func107, Try.ntmps107
          go_wp2
          go_ret
          exact ⟨ret_i1 F.out.symm, hwb⟩
        · have F := Lib.hid (blbE_ok (k := 1) (i := i) (n := n) (t := t) ⟨hi0, hi, .inl ⟨rfl, hn0, hn⟩⟩ hz)
          have hz1 : (t.size : Int) ≤ 600 := by omega
          go_enter Try.func107, Try.ntmps107
          go_wp2
          go_ret
          exact ⟨ret_i1 F.out.symm, hwb⟩
    · rcases (show n < 0 ∨ 0 < n ∨ n = 0 by omega) with hn | hn | rfl
      · skip
        have F := Lib.hid (blbE_bad (k := 2) (i := i) (n := n) (t := t) (by rintro ⟨q0, q1, q2⟩; omega))
        have hn2 : (n != 0) = true := by rw [bne_iff_ne]; omega
        go_enter Try.func107, Try.ntmps107
        go_wp2
        all_goals (go_ret; exact ⟨ret_i1 F.out.symm, hwb⟩)
      · skip
        have F := Lib.hid (blbE_bad (k := 2) (i := i) (n := n) (t := t) (by rintro ⟨q0, q1, q2⟩; omega))
        have hn2 : (n != 0) = true := by rw [bne_iff_ne]; omega
        have hn3 : (0 : Int) ≤ n := by omega
        go_enter Try.func107, Try.ntmps107
        go_wp2
        all_goals (go_ret; exact ⟨ret_i1 F.out.symm, hwb⟩)
      · skip
        by_cases hz : 600 < t.size
        · have F := Lib.hid (blbE_large (k := 2) (i := i) (n := 0) (t := t) ⟨hi0, hi, .inr (.inl ⟨rfl, rfl⟩)⟩ hz)
          have hz1 : (600 : Int) < (t.size : Int) := by omega
          go_enter Try.func107, Try.ntmps107
          go_wp2
          go_ret
          exact ⟨ret_i1 F.out.symm, hwb⟩
        · have F := Lib.hid (blbE_ok (k := 2) (i := i) (n := 0) (t := t) ⟨hi0, hi, .inr (.inl ⟨rfl, rfl⟩)⟩ hz)
          have hz1 : (t.size : Int) ≤ 600 := by omega
          go_enter Try.func107, Try.ntmps107
          go_wp2
          go_ret
          exact ⟨ret_i1 F.out.symm, hwb⟩
    · rcases (show n < 0 ∨ 0 < n ∨ n = 0 by omega) with hn | hn | rfl
      · skip
        have F := Lib.hid (blbE_bad (k := 3) (i := i) (n := n) (t := t) (by rintro ⟨q0, q1, q2⟩; omega))
        have hn2 : (n != 0) = true := by rw [bne_iff_ne]; omega
        go_enter Try.func107, Try.ntmps107
        go_wp2
        all_goals (go_ret; exact ⟨ret_i1 F.out.symm, hwb⟩)
      · skip
        have F := Lib.hid (blbE_bad (k := 3) (i := i) (n := n) (t := t) (by rintro ⟨q0, q1, q2⟩; omega))
        have hn2 : (n != 0) = true := by rw [bne_iff_ne]; omega
        have hn3 : (0 : Int) ≤ n := by omega
        go_enter Try.func107, Try.ntmps107
        go_wp2
        all_goals (go_ret; exact ⟨ret_i1 F.out.symm, hwb⟩)
      · by_cases ht : t.size = 0
        · obtain rfl := empty_of_size ht
          have F := Lib.hid (blbE_ok (k := 3) (i := i) (n := 0) (t := ⟨#[]⟩) ⟨hi0, hi, .inr (.inr ⟨rfl, rfl, rfl⟩)⟩ (by decide))
          clear ht
          go_enter Try.func107, Try.ntmps107
          go_wp2
          go_ret
          exact ⟨ret_i1 F.out.symm, hwb⟩
        · have t1 := empty_ne ht
          have t2 := empty_ne' ht
          have F := Lib.hid (blbE_bad (k := 3) (i := i) (n := 0) (t := t) (by rintro ⟨q0, q1, q2⟩; omega))
          clear ht
          go_enter Try.func107, Try.ntmps107
          go_wp2
          all_goals (go_ret; exact ⟨ret_i1 F.out.symm, hwb⟩)
    · have k1 : (k == 1) = false := by rw [beq_eq_false_iff_ne]; omega
      have k2 : (k == 2) = false := by rw [beq_eq_false_iff_ne]; omega
      have k3 : (k == 3) = false := by rw [beq_eq_false_iff_ne]; omega
      have F := Lib.hid (blbE_bad (k := k) (i := i) (n := n) (t := t) (by rintro ⟨q0, q1, q2⟩; omega))
      go_enter Try.func107, Try.ntmps107
      go_wp2
      all_goals (go_ret; exact ⟨ret_i1 F.out.symm, hwb⟩)
    · have k1 : (k == 1) = false := by rw [beq_eq_false_iff_ne]; omega
      have k2 : (k == 2) = false := by rw [beq_eq_false_iff_ne]; omega
      have k3 : (k == 3) = false := by rw [beq_eq_false_iff_ne]; omega
      have k4 : (1 : Int) ≤ k := by omega
      have F := Lib.hid (blbE_bad (k := k) (i := i) (n := n) (t := t) (by rintro ⟨q0, q1, q2⟩; omega))
      go_enter Try.func107, Try.ntmps107
      go_wp2
      all_goals (go_ret; exact ⟨ret_i1 F.out.symm, hwb⟩)

end Go.Proofs.Ytjmgocfoimhmjaa
