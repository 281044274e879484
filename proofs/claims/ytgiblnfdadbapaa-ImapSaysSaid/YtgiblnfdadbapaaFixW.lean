/- num.Fix, num.Unfix and their references, walked. -/
import Derived.Test.YtgiblnfdadbapaaFixP
import Derived.Test.YtgiblnfdadbapaaOwn
import Derived.PlainAid
namespace Go.Proofs.Ytgiblnfdadbapaa
open Go.RowKit Go.PlainAid

theorem info8 : (Try.prog.info? 5).map (fun i => (i.zero, i.size, i.bytes)) = some (some (.int .u8 0), 1, 1) := by kernel_rfl
def unfixV (s : ByteArray) : Int := if 8 < s.size then 0 else beF (bt s) s.size
def unfixE (s : ByteArray) : Int := if 8 < s.size then 2 else 0
theorem unfix_large {s : ByteArray} (h : 8 < s.size) : unfixV s = 0 ∧ unfixE s = 2 := by simp [unfixV, unfixE, h]
theorem unfix_ok {s : ByteArray} (h : ¬ 8 < s.size) : unfixV s = beF (bt s) s.size ∧ unfixE s = 0 := by simp [unfixV, unfixE, h]

set_option maxRecDepth 20000 in
set_option maxHeartbeats 400000 in
theorem fix_any (n a : Int) (w : World) (h0 : 0 ≤ n) (h1 : n ≤ 18446744073709551615) (ha0 : -9223372036854775808 ≤ a) (ha1 : a ≤ 9223372036854775807) :
    Calls Try.prog 11 #[.int .u64 n, .int .i64 a] w fun e w' => e = .returned (.string (strOfNums (fixW a n))) ∧ Below w.heap.size w w' := by
  by_cases hin : 1 ≤ a ∧ a ≤ 8
  · obtain ⟨W, rfl⟩ := Int.eq_ofNat_of_zero_le (show 0 ≤ a by omega)
    have F : Hid (fixW (W : Int) n = fixL W n) := by simp only [Hid, fixW]; rw [if_pos hin]; simp
    have hW1 : 1 ≤ W := by omega
    have hW8 : W ≤ 8 := by omega
    obtain ⟨i0, hi, hz0, hz1, hz2⟩ := info_parts info8
    go_enter Try.func11, Try.ntmps11
    go_wp2_with (at_make; refine wpList_make_full _ rfl _ _ _ rfl w.heap.size 5 i0 _ 1 Try.underlying41 hi hz0 hz1 _ _ _ _ W rfl rfl rfl rfl ?_ ?_ (Nat.le_refl _) ?_; rw [hz2]; omega; unfold maxLen; omega; intro w1 hown hg)
    have hown2 : w1.ownsRow w.heap.size 5 1 (.slice (some ⟨w.heap.size, 0, none⟩) W W) W ((List.replicate W (0 : Int)).map (Value.int .u8)) := by
      have e : (madeCells (Value.int .u8 0).cells (W * 1)).toList = (List.replicate W (0 : Int)).map (Value.int .u8) := by
        rw [Nat.mul_one, List.map_replicate]; exact toList_madeCells_one _ _
      rw [← e]; exact hown
    have hbel : Below w.heap.size w w1 := (Below.refl _ _).grown hg (Nat.le_refl _) (by simp)
    clear hown hg
    go_loopw [0, 6] (fun v0 v6 wr => ∃ (i m : Int) (xs : List Int), -1 ≤ i ∧ i < W ∧ 0 ≤ m ∧ m ≤ 18446744073709551615 ∧ Hid (m = n / 256 ^ (W - (i + 1).toNat)) ∧ Hid (xs = List.replicate (i + 1).toNat 0 ++ fixL (W - (i + 1).toNat) n) ∧ v6 = .int .i64 i ∧ v0 = .int .u64 m ∧ wr.ownsRow w.heap.size 5 1 (.slice (some ⟨w.heap.size, 0, none⟩) W W) W (xs.map (Value.int .u8)) ∧ Below w.heap.size w wr) (fun _ v6 _ => (intOf v6 + 1).toNat)
    case atStart =>
      refine ⟨(W : Int) - 1, n, List.replicate W 0, by omega, by omega, h0, h1, ?_, ?_, rfl, rfl, hown2, hbel⟩
      all_goals simp only [Hid]
      all_goals rw [show ((W : Int) - 1 + 1).toNat = W by omega]
      all_goals simp [fixL]
    case round =>
      obtain ⟨i, m, xs, hi0, hi1, hm0, hm1, hm, hxs, rfl, rfl, hown, hb⟩ := hrel
      have hxl : xs.length = W := by have := hown.1; simpa using this
      by_cases hi : 0 ≤ i
      · have HL := Lib.hid hxl
        have hil : i.toNat < W := by omega
        obtain ⟨old, hc⟩ : ∃ old : Int, wr.cell? ⟨w.heap.size, i.toNat, none⟩ = some (.int .u8 old) := by
          refine ⟨xs[i.toNat]'(by omega), ?_⟩
          rw [hown.cellAt i.toNat (by omega)]
          simp [List.getElem?_eq_getElem (show i.toNat < xs.length by omega)]
        have hf := hown.frozenAt i.toNat
        clear hxl
        go_wp2
        go_roundw
        case rel =>
          have e : W - (i - 1 + 1).toNat = W - (i + 1).toNat + 1 := by omega
          have e2 : (i - 1 + 1).toNat = i.toNat := by omega
          have e3 : (i + 1).toNat = i.toNat + 1 := by omega
          refine ⟨i - 1, m / 256, xs.set i.toNat (m % 256), by omega, by omega, by omega, by omega, ?_, ?_, by go_num, by go_num, ?_, hb.setCell (Nat.le_refl _) _⟩
          · simp only [Hid]; rw [e, ← shr8, ← hm.out]
          · simp only [Hid]; rw [e, e2, hxs.out, e3, fix_set, hm.out, e3]; rfl
          · have := hown.stored i.toNat (.int .u8 (m % 256))
            rw [List.map_set]
            exact this.1
        case measure => simp [intOf]; omega
      · go_wp2_with (refine wpList_str rfl rfl Try.underlying41 Try.underlying5 Try.underlying9 hown rfl ?_)
        go_ret
        exact ⟨ret_s1 (by rw [F.out, hxs.out, show i = -1 by omega]; simp), hb⟩
  · have F : Hid (fixW a n = []) := by simp only [Hid, fixW]; rw [if_neg hin]
    rcases (show a < 1 ∨ 8 < a by omega) with h | h
    all_goals
      go_enter Try.func11, Try.ntmps11
      go_wp2
      go_ret
      exact ⟨ret_s1 (by rw [F.out]; rfl), Below.refl _ _⟩

set_option maxRecDepth 20000 in
set_option maxHeartbeats 400000 in
theorem fixr_any (n a : Int) (w : World) (h0 : 0 ≤ n) (h1 : n ≤ 18446744073709551615) (ha0 : -9223372036854775808 ≤ a) (ha1 : a ≤ 9223372036854775807) :
    Calls Try.prog 13 #[.int .u64 n, .int .i64 a] w fun e w' => e = .returned (.string (strOfNums (fixW a n))) ∧ Below w.heap.size w w' := by
  by_cases hin : 1 ≤ a ∧ a ≤ 8
  · obtain ⟨W, rfl⟩ := Int.eq_ofNat_of_zero_le (show 0 ≤ a by omega)
    have F : Hid (fixW (W : Int) n = fixL W n) := by simp only [Hid, fixW]; rw [if_pos hin]; simp
    have hW1 : 1 ≤ W := by omega
    have hW8 : W ≤ 8 := by omega
    go_enter Try.func13, Try.ntmps13
    go_wp2
    go_loopw [0, 5, 13] (fun v0 v5 v13 wr => ∃ (k : Nat) (m : Int) (xs : List Int), k ≤ W ∧ 0 ≤ m ∧ m ≤ 18446744073709551615 ∧ Hid (m = n / 256 ^ k) ∧ Hid (xs = fixL k n) ∧ v13 = .int .i64 k ∧ v0 = .int .u64 m ∧ v5 = .string (strOfNums xs) ∧ Below w.heap.size w wr) (fun _ _ v13 _ => W - (intOf v13).toNat)
    case atStart => exact ⟨0, n, [], Nat.zero_le _, h0, h1, by simp [Hid], rfl, rfl, rfl, rfl, Below.refl _ _⟩
    case round =>
      obtain ⟨k, m, xs, hk, hm0, hm1, hm, hxs, rfl, rfl, rfl, hb⟩ := hrel
      have hsz := hb.size
      by_cases hlt : k < W
      · have hconv := run_str1 (P := Try.prog) Try.underlying41 Try.underlying5 Try.underlying9 (m % 256)
        have hcat := run_cat (P := Try.prog) [m % 256] xs (by rw [hxs.out, fixL_length]; simp; omega)
        go_wp2
        go_roundw
        case rel => exact ⟨k + 1, m / 256, m % 256 :: xs, by omega, by omega, by omega, by simp only [Hid]; rw [← shr8, ← hm.out], by simp only [Hid, fixL]; rw [← hm.out, ← hxs.out], by go_num, by go_num, rfl, hb.alloc hsz _⟩
        case measure => simp [intOf]; omega
      · go_wp2
        go_ret
        exact ⟨ret_s1 (by rw [F.out, hxs.out, show k = W by omega]), hb⟩
  · have F : Hid (fixW a n = []) := by simp only [Hid, fixW]; rw [if_neg hin]
    rcases (show a < 1 ∨ 8 < a by omega) with h | h
    all_goals
      go_enter Try.func13, Try.ntmps13
      go_wp2
      go_ret
      exact ⟨ret_s1 (by rw [F.out]; rfl), Below.refl _ _⟩
end Go.Proofs.Ytgiblnfdadbapaa
