/- bits.Flip, walked. -/
import Derived.Test.YtdoaogfpahjmmaaFlipQ
namespace Go.Proofs.Ytdoaogfpahjmmaa
open Go.RowKit

set_option maxHeartbeats 400000 in
theorem flip_any (n : Nat) (a : Int) (w : World) (hn : n < 18446744073709551616) (h0 : -9223372036854775808 ≤ a) (h1 : a ≤ 9223372036854775807) :
    Calls Try.prog 45 #[.int .u64 n, .int .i64 a] w fun e w' => e = .returned (.int .u64 (flip n a)) ∧ w = w' := by
  rcases clamp_cases a with ⟨ha, hb⟩ | ⟨ha, ha', hb, hb'⟩ | ⟨ha, hb, hb'⟩
  all_goals
    have hcl := clamp_le a
    go_enter Try.func45, Try.ntmps45
    go_wp2
    go_loop [5, 0, 10] (fun v5 v0 v10 => ∃ k q t : Nat, k ≤ clamp a ∧ Hid (q = n / 2 ^ k) ∧ Hid (t = flipTo n k) ∧ v10 = .int .i64 k ∧ v5 = .int .u64 t ∧ v0 = .int .u64 q) (fun _ _ v10 => clamp a - (intOf v10).toNat)
    case atStart => exact ⟨0, n, 0, Nat.zero_le _, by simp [Hid], rfl, rfl, rfl, rfl⟩
    case round =>
      obtain ⟨k, q, t, hk, hq, ht, rfl, rfl, rfl⟩ := hrel
      by_cases hlt : k < clamp a
      · go_wp2
        try
          go_round
          case rel => exact ⟨k + 1, q / 2, t * 2 + q % 2, by omega, half_step n k q hq.out, by simp only [Hid, flipTo]; rw [← hq.out, ← ht.out], by go_num, ret_nat (flip_step n k q t (by omega) hn hq.out ht.out), by go_num⟩
          case measure => simp [intOf]; omega
      · go_wp2
        go_ret
        exact ⟨ret_int (by rw [ht.out, show k = clamp a by omega]; rfl), rfl⟩

end Go.Proofs.Ytdoaogfpahjmmaa
