/- linenref.Fix, walked. -/
import Derived.Test.YtfhgglghofhndaaFixP
import Derived.Test.YtfhgglghofhndaaOwn
import Derived.PlainAid
namespace Go.Proofs.Ytfhgglghofhndaa
open Go.RowKit Go.PlainAid

set_option maxRecDepth 20000 in
set_option maxHeartbeats 400000 in
theorem fixr_any (n a : Int) (w : World) (h0 : 0 ≤ n) (h1 : n ≤ 18446744073709551615) (ha0 : -9223372036854775808 ≤ a) (ha1 : a ≤ 9223372036854775807) :
    Calls Try.prog 63 #[.int .u64 n, .int .i64 a] w fun e w' => e = .returned (.string (strOfNums (fixW a n))) ∧ Below w.heap.size w w' := by
  by_cases hin : 1 ≤ a ∧ a ≤ 8
  · obtain ⟨W, rfl⟩ := Int.eq_ofNat_of_zero_le (show 0 ≤ a by omega)
    have F : Hid (fixW (W : Int) n = fixL W n) := by simp only [Hid, fixW]; rw [if_pos hin]; simp
    have hW1 : 1 ≤ W := by omega
    have hW8 : W ≤ 8 := by omega
    go_enter Try.func63, Try.ntmps63
    go_wp2
    go_loopw [0, 5, 13] (fun v0 v5 v13 wr => ∃ (k : Nat) (m : Int) (xs : List Int), k ≤ W ∧ 0 ≤ m ∧ m ≤ 18446744073709551615 ∧ Hid (m = n / 256 ^ k) ∧ Hid (xs = fixL k n) ∧ v13 = .int .i64 k ∧ v0 = .int .u64 m ∧ v5 = .string (strOfNums xs) ∧ Below w.heap.size w wr) (fun _ _ v13 _ => W - (intOf v13).toNat)
    case atStart => exact ⟨0, n, [], Nat.zero_le _, h0, h1, by simp [Hid], rfl, rfl, rfl, rfl, Below.refl _ _⟩
    case round =>
      obtain ⟨k, m, xs, hk, hm0, hm1, hm, hxs, rfl, rfl, rfl, hb⟩ := hrel
      have hsz := hb.size
      by_cases hlt : k < W
      · have hconv := run_str1 (P := Try.prog) Try.underlying72 Try.underlying5 Try.underlying9 (m % 256)
        have hcat := run_cat (P := Try.prog) [m % 256] xs (by rw [hxs.out, fixL_length]; simp; omega)
        go_wp2
        go_roundw
        case rel => exact ⟨k + 1, m / 256, m % 256 :: xs, by omega, by omega, by omega, by simp only [Hid]; rw [← shr8, ← hm.out], by simp only [Hid, fixL]; rw [← hm.out, ← hxs.out], by go_num, by go_num, rfl, hb.alloc hsz _⟩
        case measure => simp [intOf]; omega
      · go_wp2
        go_ret
        exact ⟨ret_s1 (by rw [F.out, hxs.out, show k = W by omega]), hb⟩
  · have F : Hid (fixW a n = []) := by simp only [Hid, fixW]; rw [if_neg hin]
    rcases (show a < 1 ∨ 8 < a by omega) with h | h
    all_goals
      go_enter Try.func63, Try.ntmps63
      go_wp2
      go_ret
      exact ⟨ret_s1 (by rw [F.out]; rfl), Below.refl _ _⟩
end Go.Proofs.Ytfhgglghofhndaa
