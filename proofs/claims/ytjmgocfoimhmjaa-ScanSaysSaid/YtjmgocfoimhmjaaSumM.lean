/- sum.More, sum.Sum and the reference's turn, times and Sum, walked. -/
import Derived.Test.YtjmgocfoimhmjaaSumS
import Derived.Deep.WholeRow
import Derived.Deep.DeepCutAuto
import Derived.Laws.BitsAllLaws
namespace Go.Proofs.Ytjmgocfoimhmjaa
open Go.RowKit

/-- The table's index. -/
def idx (d : W32) (s : ByteArray) (k : Nat) : Nat := ((d ^^^ bw s k) &&& 0xff#32).toNat
theorem and_ff (n : Nat) : n &&& 255 = n % 256 := Nat.and_two_pow_sub_one_eq_mod n 8
theorem idx_eq (d : W32) (s : ByteArray) (k : Nat) : idx d s k = (d.toNat ^^^ (bw s k).toNat) % 256 := by
  unfold idx; rw [BitVec.toNat_and, BitVec.toNat_xor]; exact and_ff _
theorem idx_lt (d : W32) (s : ByteArray) (k : Nat) : idx d s k < 256 := by rw [idx_eq]; omega
theorem idx_walk (d : W32) (s : ByteArray) (k : Nat) : bits .xor .u8 (v32 d % 256) (PlainAid.bt s k) = (idx d s k : Int) := by
  have hl := bw_lt s k
  rw [bt_v32, idx_eq, Nat.xor_mod_two_pow (n := 8)]
  unfold v32
  rw [show ((d.toNat : Int) % 256) = ((d.toNat % 256 : Nat) : Int) by omega, u8_xor_nat _ _ (by omega) hl]
  rw [show (bw s k).toNat % 2 ^ 8 = (bw s k).toNat by omega]
theorem idx_step (d : W32) (s : ByteArray) (k : Nat) : (d >>> 8) ^^^ crcSteps 8 (BitVec.ofNat 32 (idx d s k)) = byteIn d (bw s k) := by
  have hl := bw_lt s k
  unfold byteIn
  rw [steps8 (d ^^^ bw s k)]
  have e1 : (d ^^^ bw s k) >>> 8 = d >>> 8 := by
    apply BitVec.eq_of_toNat_eq
    rw [BitVec.toNat_ushiftRight, BitVec.toNat_ushiftRight, BitVec.toNat_xor, Nat.shiftRight_xor_distrib, Nat.shiftRight_eq_div_pow (bw s k).toNat, show (bw s k).toNat / 2 ^ 8 = 0 by omega, Nat.xor_zero]
  rw [e1]
  unfold idx
  rw [BitVec.ofNat_toNat]; simp
attribute [local irreducible] v32
theorem shr8_v32 (d : W32) : v32 d / (256 : Int) = v32 (d >>> 8) := by have := shr_v32 d 8; simpa using this

set_option maxRecDepth 20000 in
set_option maxHeartbeats 1000000 in
theorem more_any (c : W32) (s : ByteArray) (w : World) (hs : s.size ≤ 9223372036854775807) :
    Calls Try.prog 104 #[.int .u32 (v32 c), .string s] w fun e w' => e = .returned (.int .u32 (v32 (moreF c s))) ∧ Below w.heap.size w w' := by
  have hb := v32_bd c
  by_cases h32 : (s.size : Int) < 32
  · go_enter Try.func104, Try.ntmps104
    go_wp2_with (go_at_call 111; refine (slow_any _ _ _ hs).mono ?_; rintro e w' ⟨rfl, rfl⟩)
    go_ret
    exact ⟨rfl, Below.refl _ _⟩
  · have hnot := compl_v32 c
    have hsg := u32_plain
    have hgb := PlainAid.get_bt s
    have hz := zero_tab
    have hi := Lib.hid (info_tab 256)
    have hone : Hid ((tabRow 256).all (·.oneCell') = true) := by
      simp only [Hid, tabRow, tabV]; simp [Value.oneCell']; intro x hx; simp [hx]
    have HO := Lib.hid @tabRow_size
    go_enter Try.func104, Try.ntmps104
    go_wp2_with (first
      | (go_at_call 112; refine (table_any _).mono ?_; rintro e w1 ⟨rfl, hb1⟩)
      | (refine wpList_store_rowTo rfl _ _ _ rfl rfl w1.heap.size (tabRow 256) rfl rfl _ (tabRow 0) (heap_alloc_new _ _) hi.out ((HO.out 0).trans (HO.out 256).symm) hone.out ?_; rw [World.setRow_alloc_new]))
    obtain ⟨wt, hwt⟩ : ∃ wt, wt = w1.alloc (.cells (tabRow 256) 148) := ⟨_, rfl⟩
    have hrow : wt.heap[w1.heap.size]? = some (.cells (tabRow 256) 148 (0, 0)) := by rw [hwt]; exact heap_alloc_new _ _
    have hbt : Below w.heap.size w wt := by rw [hwt]; exact hb1.alloc hb1.size _
    rw [← hwt]
    have HC : Hid (∀ i, i < 256 → wt.cell? ⟨w1.heap.size, i, none⟩ = some (.int .u32 (v32 (crcSteps 8 (BitVec.ofNat 32 i))))) := fun i hi => by
      rw [tab_cell _ _ _ _ _ _ hrow, tabRow_get _ _ hi, if_pos hi]; rfl
    clear hwt hrow hz hi hone HO
    go_loop [0, 18] (fun v0 v18 => ∃ (k : Nat) (d : W32), k ≤ s.size ∧ v18 = .int .i64 k ∧ v0 = .int .u32 (v32 d) ∧ Hid (d = crcOver (bw s) (~~~ c) k)) (fun _ v18 => s.size - (intOf v18).toNat)
    case atStart => exact ⟨0, ~~~ c, Nat.zero_le _, rfl, rfl, rfl⟩
    case round =>
      obtain ⟨k, d, hk, rfl, rfl, hd⟩ := hrel
      have hbd := v32_bd d
      by_cases hlt : k < s.size
      · have hx := idx_walk d s k
        have hil := idx_lt d s k
        have hcl := HC.out _ hil
        have hsh := shr8_v32 d
        have hx2 := xor_v32 (d >>> 8) (crcSteps 8 (BitVec.ofNat 32 (idx d s k)))
        rw [idx_step] at hx2
        have hb0 := PlainAid.bt_nonneg s k
        have hb1 := PlainAid.bt_le s k
        generalize idx d s k = q at *
        go_wp2
        go_round
        case rel => exact ⟨k + 1, byteIn d (bw s k), by omega, by go_num, rfl, by simp only [Hid]; rw [hd.out]; rfl⟩
        case measure => simp [intOf]; omega
      · have hnd := compl_v32 d
        go_wp2
        go_ret
        refine ⟨ret_i1 ?_, hbt⟩
        rw [hd.out, show k = s.size by omega]; rfl

theorem v32_zero : v32 0#32 = 0 := by unfold v32; rfl
theorem v32_Q : v32 crcQ = 517762881 := by unfold v32; rfl
theorem more_zero (s : ByteArray) (w : World) (hs : s.size ≤ 9223372036854775807) :
    Calls Try.prog 104 #[.int .u32 0, .string s] w fun e w' => e = .returned (.int .u32 (v32 (moreF 0#32 s))) ∧ Below w.heap.size w w' := by
  have h := more_any 0#32 s w hs
  rw [v32_zero] at h
  exact h
theorem sum_any (s : ByteArray) (w : World) (hs : s.size ≤ 9223372036854775807) :
    Calls Try.prog 88 #[.string s] w fun e w' => e = .returned (.int .u32 (v32 (moreF 0#32 s))) ∧ Below w.heap.size w w' := by
  go_enter Try.func88, Try.ntmps88
  go_wp2_with (go_at_call 104; refine (more_zero _ _ hs).mono ?_; rintro e w' ⟨rfl, hb⟩)
  go_ret
  exact ⟨rfl, hb⟩

theorem turn_flip (c : W32) (w : World) :
    Calls Try.prog 113 #[.int .u64 (v32 c), .int .i64 32] w fun e w' => e = .returned (.int .u64 (v32 (turn c))) ∧ w = w' := by
  have h := flipr_any c.toNat 32 w (by have := c.isLt; omega) (by omega) (by omega)
  rw [flip_turn] at h
  unfold v32
  exact h
theorem turn_any (c : W32) (w : World) :
    Calls Try.prog 105 #[.int .u32 (v32 c)] w fun e w' => e = .returned (.int .u32 (v32 (turn c))) ∧ w = w' := by
  have hb := v32_bd c
  have hb2 := v32_bd (turn c)
  go_enter Try.func105, Try.ntmps105
  go_wp2_with (go_at_call 113; refine (turn_flip _ _).mono ?_; rintro e w' ⟨rfl, rfl⟩)
  go_ret
  exact ⟨rfl, rfl⟩
theorem high_v32 (c : W32) : c.getLsbD 31 = decide (2147483648 ≤ v32 c) := by
  have := c.isLt
  rw [BitVec.getLsbD, Nat.testBit_eq_decide_div_mod_eq]
  unfold v32
  congr 1
  apply propext
  constructor <;> intro h <;> omega
theorem shl1_v32 (c : W32) : v32 c * (2 : Int) % (4294967296 : Int) = v32 (c <<< 1) := by have := shl_v32 c 1; simpa using this
theorem times_any (c : W32) (w : World) :
    Calls Try.prog 106 #[.int .u32 (v32 c)] w fun e w' => e = .returned (.int .u32 (v32 (crcTimes c))) ∧ w = w' := by
  have hb := v32_bd c
  have h1 := shl1_v32 c
  have h2 : IntKind.u32.wrap (v32 c * 2) = v32 (c <<< 1) := by rw [IntKind.wrap_u32, h1]
  have h3 := xor_v32 (c <<< 1) crcQ
  rw [v32_Q] at h3
  by_cases hc : 2147483648 ≤ v32 c
  · have F : crcTimes c = (c <<< 1) ^^^ crcQ := by unfold crcTimes; rw [high_v32]; simp [hc]
    go_enter Try.func106, Try.ntmps106
    go_wp2
    go_ret
    exact ⟨by first | (rw [F]; rfl) | rfl, rfl⟩
  · have F : crcTimes c = c <<< 1 := by unfold crcTimes; rw [high_v32]; simp [hc]
    go_enter Try.func106, Try.ntmps106
    go_wp2
    go_ret
    exact ⟨by first | (rw [F]; rfl) | rfl, rfl⟩

theorem bitk_le (b : W32) (k : Nat) : v32 (bitk b k) ≤ 1 := by
  have h : bitk b k = if (b >>> k).getLsbD 0 then 1#32 else 0#32 := by
    unfold bitk
    apply BitVec.eq_of_getLsbD_eq
    intro i hi
    rw [BitVec.getLsbD_and, one_bit]
    by_cases h0 : i = 0
    · subst h0; cases (b >>> k).getLsbD 0 <;> rfl
    · rw [show decide (i = 0) = false by simp [h0], Bool.and_false]
      split
      · rw [one_bit]; simp [h0]
      · simp
  rw [h]; unfold v32; split <;> decide
theorem bit_walk (s : ByteArray) (k j : Nat) : bits .and .u8 (v32 (bw s k >>> j)) 1 = v32 (bitk (bw s k) j) := by
  have hl := bw_lt s k
  have h2 : (bw s k >>> j).toNat < 256 := by
    rw [BitVec.toNat_ushiftRight, Nat.shiftRight_eq_div_pow]
    exact Nat.lt_of_le_of_lt (Nat.div_le_self _ _) hl
  unfold v32 bitk
  rw [show (1 : Int) = ((1 : Nat) : Int) from rfl, u8_and_nat _ _ h2 (by decide), BitVec.toNat_and]
  rfl
theorem high_walk (b : W32) (j : Nat) : v32 (bitk b j) * (2147483648 : Int) % (4294967296 : Int) = v32 (turn (bitk b j)) := by
  have := shl_v32 (bitk b j) 31
  rw [turn_one] at this
  simpa using this
theorem ediv_walk (s : ByteArray) (k j : Nat) : PlainAid.bt s k / (2 : Int) ^ j = v32 (bw s k >>> j) := by
  have := shr_v32 (bw s k) j
  rw [bt_v32, ← this]
  simp

set_option maxRecDepth 20000 in
set_option maxHeartbeats 1000000 in
theorem sumr_any (c : W32) (s : ByteArray) (w : World) (hs : s.size ≤ 9223372036854775807) :
    Calls Try.prog 91 #[.int .u32 (v32 c), .string s] w fun e w' => e = .returned (.int .u32 (v32 (moreF c s))) ∧ w = w' := by
  have hb := v32_bd c
  have hnot := compl_v32 c
  have hsg := u32_plain
  have hgb := PlainAid.get_bt s
  go_enter Try.func91, Try.ntmps91
  go_wp2_with (go_at_call 105; refine (turn_any _ _).mono ?_; rintro e w' ⟨rfl, rfl⟩)
  go_loop [5, 13] (fun v5 v13 => ∃ (k : Nat) (d : W32), k ≤ s.size ∧ v13 = .int .i64 k ∧ v5 = .int .u32 (v32 (turn d)) ∧ Hid (d = crcOver (bw s) (~~~ c) k)) (fun _ v13 => s.size - (intOf v13).toNat)
  case atStart => exact ⟨0, ~~~ c, Nat.zero_le _, rfl, rfl, rfl⟩
  case round =>
    obtain ⟨k, d, hk, rfl, rfl, hd⟩ := hrel
    by_cases hlt : k < s.size
    · have hb0 := PlainAid.bt_nonneg s k
      have hb1 := PlainAid.bt_le s k
      go_wp2
      go_loop [5, 16] (fun v5 v16 => ∃ (j : Nat) (e : W32), j ≤ 8 ∧ v16 = .int .i64 j ∧ v5 = .int .u32 (v32 (turn e)) ∧ Hid (e = refC d (bw s k) j)) (fun _ v16 => 8 - (intOf v16).toNat)
      case atStart => exact ⟨0, d, by omega, rfl, rfl, rfl⟩
      case round =>
        obtain ⟨j, e, hj, rfl, rfl, he⟩ := hrel
        have hbe := v32_bd (turn e)
        by_cases hj8 : (j : Int) < 8
        · have hj7 : (j : Int) ≤ 7 := by omega
          have hlk : (k : Int) < (s.size : Int) := by omega
          have f1 := ediv_walk s k j
          have f2 := bit_walk s k j
          have f3 := high_walk (bw s k) j
          have f4 := bitk_le (bw s k) j
          have f5 := v32_bd (bitk (bw s k) j)
          have f6 : IntKind.u32.wrap (v32 (bitk (bw s k) j) * (2147483648 : Int)) = v32 (turn (bitk (bw s k) j)) := by rw [IntKind.wrap_u32, f3]
          have f7 := xor_v32 (turn e) (turn (bitk (bw s k) j))
          rw [← turn_xor] at f7
          have f8 : min j 8 = j := by omega
          generalize hbj : bitk (bw s k) j = bj at *
          have HBJ := Lib.hid hbj
          clear hbj
          generalize bw s k >>> j = bs at *
          have f9 : v32 bj % (4294967296 : Int) = v32 bj := by omega
          have HE : Hid (refC d (bw s k) (j + 1) = crcStep (e ^^^ bj)) := by simp only [Hid, refC]; rw [← he.out, ← HBJ.out]
          have hts := turn_step (e ^^^ bj)
          go_wp2_with (go_at_call 106; refine (times_any (turn (e ^^^ bj)) _).mono ?_; rintro e w' ⟨rfl, rfl⟩; rw [← hts])
          go_round
          case rel => exact ⟨j + 1, crcStep (e ^^^ bj), by omega, by go_num, by rw [turn_step], by simp only [Hid]; rw [HE.out]⟩
          case measure => simp [intOf]; omega
        · go_wp2
          go_round
          case rel => exact ⟨k + 1, e, by omega, by go_num, rfl, by simp only [Hid]; rw [he.out, hd.out, show j = 8 by omega, refC_byte _ _ (bw_lt s k)]; rfl⟩
          case measure => simp [intOf]; omega
    · have hnd := compl_v32 d
      have htt := turn_turn d
      go_wp2_with (go_at_call 105; refine (turn_any _ _).mono ?_; rintro e w' ⟨rfl, rfl⟩; rw [htt])
      go_ret
      refine ⟨ret_i1 ?_, rfl⟩
      rw [hd.out, show k = s.size by omega]; rfl
end Go.Proofs.Ytjmgocfoimhmjaa
