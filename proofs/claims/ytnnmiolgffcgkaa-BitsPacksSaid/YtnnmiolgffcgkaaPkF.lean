/- linenref.fits, walked. -/
import Derived.Test.YtnnmiolgffcgkaaPkR
namespace Go.Proofs.Ytnnmiolgffcgkaa
open Go.RowKit Go.PlainAid

set_option maxRecDepth 20000 in
set_option maxHeartbeats 1000000 in
theorem fits_any (V : Int) (x : Nat) (w : World) (h0 : 0 ≤ V) (h1 : V < 18446744073709551616) (hx : x ≤ 64) :
    Calls Try.prog 59 #[.agg #[.int .u64 V, .int .i64 x]] w fun e w' => e = .returned (.bool (decide (V < 2 ^ x))) ∧ Below w.heap.size w w' := by
  have HB : Hid (Below w.heap.size w (w.alloc (.cells #[.int .u64 V, .int .i64 (x : Int)] 77))) := (Below.refl _ _).alloc (Nat.le_refl _) _
  go_enter Try.func59, Try.ntmps59
  go_wp2
  go_loopw [3, 8] (fun v3 v8 wr => ∃ (i : Nat) (u : Int), i ≤ x ∧ v8 = .int .i64 i ∧ v3 = .int .u64 u ∧ Hid (u = V / 2 ^ i) ∧ 0 ≤ u ∧ u < 18446744073709551616 ∧ Hid (Below w.heap.size w wr)) (fun _ v8 _ => x - (intOf v8).toNat)
  case atStart => exact ⟨0, V, Nat.zero_le _, rfl, rfl, by simp [Hid], h0, h1, HB.out⟩
  case round =>
    obtain ⟨i, u, hi, rfl, rfl, HU, hu0, hu1, HBW⟩ := hrel
    by_cases hlt : i < x
    · have d1 := decide_eq_true hlt
      have i1 : (i : Int) < (x : Int) := by omega
      have ht : u.tdiv 2 = u / 2 := Int.tdiv_eq_ediv_of_nonneg hu0
      have HN : Hid (u / 2 = V / 2 ^ (i + 1)) := by show _ = _; rw [HU.out, div_pow_pow V i 1 |>.symm]; rfl
      go_wp2
      go_roundw
      case rel => exact ⟨i + 1, u / 2, by omega, by go_num, by first | rfl | go_num, HN.out, by omega, by omega, HBW.out⟩
      case measure => (simp [intOf]; try omega)
    · obtain rfl : i = x := by omega
      have i1 : ¬ (i : Int) < (i : Int) := by omega
      have F : (u == 0) = decide (V < 2 ^ i) := by
        have hp : (0 : Int) < 2 ^ i := Int.pow_pos (by decide)
        rw [HU.out]
        by_cases h : V < 2 ^ i
        · rw [Int.ediv_eq_zero_of_lt h0 h]; simp [h]
        · have h2 := Int.lt_ediv_add_one_mul_self V hp
          have h3 : V / 2 ^ i ≠ 0 := fun e => by rw [e] at h2; omega
          simp [h, h3]
      have HF := Lib.hid F
      clear F
      go_wp2
      go_ret
      exact ⟨by rw [← HF.out]; rfl, HBW.out⟩
end Go.Proofs.Ytnnmiolgffcgkaa
