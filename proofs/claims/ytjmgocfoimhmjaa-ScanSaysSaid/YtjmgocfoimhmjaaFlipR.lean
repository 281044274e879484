/- linenref.Flip, walked. -/
import Derived.Test.YtjmgocfoimhmjaaFlipQ
namespace Go.Proofs.Ytjmgocfoimhmjaa
open Go.RowKit

set_option maxHeartbeats 400000 in
theorem flipr_any (n : Nat) (a : Int) (w : World) (hn : n < 18446744073709551616) (h0 : -9223372036854775808 ≤ a) (h1 : a ≤ 9223372036854775807) :
    Calls Try.prog 113 #[.int .u64 n, .int .i64 a] w fun e w' => e = .returned (.int .u64 (flip n a)) ∧ w = w' := by
  rcases clamp_cases2 a with ⟨ha, hb⟩ | ⟨ha, ha', hb, hb'⟩ | ⟨ha, hb, hb'⟩
  all_goals
    have hcl := clamp_le a
    go_enter Try.func113, Try.ntmps113
    go_wp2
    go_loop [5, 12] (fun v5 v12 => ∃ k t : Nat, k ≤ clamp a ∧ Hid (t = flipTo n k * 2 ^ (clamp a - k)) ∧ v12 = .int .i64 k ∧ v5 = .int .u64 t) (fun _ v12 => clamp a - (intOf v12).toNat)
    case atStart => exact ⟨0, 0, Nat.zero_le _, by simp [Hid, flipTo], rfl, rfl⟩
    case round =>
      obtain ⟨k, t, hk, ht, rfl, rfl⟩ := hrel
      by_cases hlt : k < clamp a
      · go_wp2
        all_goals try (exfalso; omega)
        all_goals
          first
          | (have hb : (bits .and .u64 ((n : Int) / 2 ^ k) 1 == 1) = true := by assumption
             go_round
             case rel =>
               have Y := flipr_yes n k t (clamp a - 1 - k) (clamp a) ht.out (by omega) (by omega) (by omega) hn hb
               exact ⟨k + 1, _, by omega, Y.2, by go_num, ret_nat (by rw [← Y.1]; first | rfl | (congr 3; omega))⟩
             case measure => simp [intOf]; omega)
          | (have hb : (bits .and .u64 ((n : Int) / 2 ^ k) 1 == 1) = false := by assumption
             go_round
             case rel => exact ⟨k + 1, t, by omega, flipr_no n k t (clamp a) ht.out (by omega) hn hb, by go_num, rfl⟩
             case measure => simp [intOf]; omega)
      · go_wp2
        go_ret
        exact ⟨ret_int (by rw [ht.out, show k = clamp a by omega]; simp [flip]), rfl⟩
end Go.Proofs.Ytjmgocfoimhmjaa
