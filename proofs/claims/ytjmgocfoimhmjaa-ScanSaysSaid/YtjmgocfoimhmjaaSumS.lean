/- sum.Sum, sum.More and the reference's Sum, walked. -/
import Derived.Test.YtjmgocfoimhmjaaSumW
import Derived.PlainAid
namespace Go.Proofs.Ytjmgocfoimhmjaa
open Go.RowKit

/-- The k-th byte of a string, as a 32-bit number. -/
def bw (s : ByteArray) (k : Nat) : W32 := BitVec.ofInt 32 (PlainAid.bt s k)
theorem bw_lt (s : ByteArray) (k : Nat) : (bw s k).toNat < 256 := by
  have h0 := PlainAid.bt_nonneg s k
  have h1 := PlainAid.bt_le s k
  unfold bw
  obtain ⟨n, hn⟩ := Int.eq_ofNat_of_zero_le h0
  rw [hn] at h1 ⊢
  rw [BitVec.ofInt_natCast, BitVec.toNat_ofNat]
  omega
theorem bt_v32 (s : ByteArray) (k : Nat) : PlainAid.bt s k = v32 (bw s k) := by
  have h0 := PlainAid.bt_nonneg s k
  have h1 := PlainAid.bt_le s k
  unfold bw v32
  obtain ⟨n, hn⟩ := Int.eq_ofNat_of_zero_le h0
  rw [hn] at h1 ⊢
  rw [BitVec.ofInt_natCast, BitVec.toNat_ofNat]
  omega
def moreF (c : W32) (s : ByteArray) : W32 := crcMore (bw s) c s.size

theorem compl_v32 (c : W32) : bits .xor .u32 IntKind.u32.max (v32 c) = v32 (~~~ c) := by
  have h := xor_v32 (BitVec.allOnes 32) c
  rw [show v32 (BitVec.allOnes 32) = IntKind.u32.max from rfl] at h
  rw [h, BitVec.allOnes_xor]
theorem u32_plain : IntKind.u32.signed = false := rfl

set_option maxRecDepth 20000 in
set_option maxHeartbeats 400000 in
theorem slow_any (c : W32) (s : ByteArray) (w : World) (hs : s.size ≤ 9223372036854775807) :
    Calls Try.prog 111 #[.int .u32 (v32 c), .string s] w fun e w' => e = .returned (.int .u32 (v32 (moreF c s))) ∧ w = w' := by
  have hnot := compl_v32 c
  have hsg := u32_plain
  have hgb := PlainAid.get_bt s
  go_enter Try.func111, Try.ntmps111
  go_wp2
  go_loop [0, 10] (fun v0 v10 => ∃ (k : Nat) (d : W32), k ≤ s.size ∧ v10 = .int .i64 k ∧ v0 = .int .u32 (v32 d) ∧ Hid (d = crcOver (bw s) (~~~ c) k)) (fun _ v10 => s.size - (intOf v10).toNat)
  case atStart => exact ⟨0, ~~~ c, Nat.zero_le _, rfl, rfl, rfl⟩
  case round =>
    obtain ⟨k, d, hk, rfl, rfl, hd⟩ := hrel
    have hbd := v32_bd d
    by_cases hlt : k < s.size
    · have hx := xor_v32 d (bw s k)
      rw [← bt_v32] at hx
      have hb0 := PlainAid.bt_nonneg s k
      have hb1 := PlainAid.bt_le s k
      go_wp2
      go_loop [0, 19] (fun v0 v19 => ∃ (j : Nat) (e : W32), j ≤ 8 ∧ v19 = .int .i64 j ∧ v0 = .int .u32 (v32 e) ∧ Hid (e = crcSteps j (d ^^^ bw s k))) (fun _ v19 => 8 - (intOf v19).toNat)
      case atStart => exact ⟨0, d ^^^ bw s k, by omega, rfl, rfl, rfl⟩
      case round =>
        obtain ⟨j, e, hj, rfl, rfl, he⟩ := hrel
        by_cases hj8 : (j : Int) < 8
        · go_wp2_with (go_at_call 115; refine (step_any _ _).mono ?_; rintro e w' ⟨rfl, rfl⟩)
          go_round
          case rel => exact ⟨j + 1, _, by omega, by go_num, rfl, by simp only [Hid]; rw [he.out]; rfl⟩
          case measure => simp [intOf]; omega
        · go_wp2
          go_round
          case rel => exact ⟨k + 1, e, by omega, by go_num, rfl, by simp only [Hid]; rw [he.out, hd.out, show j = 8 by omega]; rfl⟩
          case measure => simp [intOf]; omega
    · have hnd := compl_v32 d
      go_wp2
      go_ret
      refine ⟨ret_i1 ?_, rfl⟩
      rw [hd.out, show k = s.size by omega]; rfl
end Go.Proofs.Ytjmgocfoimhmjaa
