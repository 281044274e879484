/- lens.Fill and its reference, walked. -/
import Derived.Test.YtoncakcfibahaaaFillP
import Derived.Test.YtoncakcfibahaaaKit
import Derived.WalkSpells
import Derived.Lib.Hide
import Derived.WalkLawsBesides
namespace Go.Proofs.Ytoncakcfibahaaa
open Go.RowKit

theorem pow2_step (k : Nat) (h : k ≤ 15) : (0 : Int) < 2 ^ k ∧ (2 : Int) ^ k ≤ 32768 := by
  have : k = 0 ∨ k = 1 ∨ k = 2 ∨ k = 3 ∨ k = 4 ∨ k = 5 ∨ k = 6 ∨ k = 7 ∨ k = 8 ∨ k = 9 ∨ k = 10 ∨ k = 11 ∨ k = 12 ∨ k = 13 ∨ k = 14 ∨ k = 15 := by omega
  rcases this with rfl | rfl | rfl | rfl | rfl | rfl | rfl | rfl | rfl | rfl | rfl | rfl | rfl | rfl | rfl | rfl <;> decide
set_option maxHeartbeats 400000 in
/-- linenref.Pow2, up to the sixteenth power. -/
theorem pow2_any (n : Int) (w : World) (h0 : 0 ≤ n) (h1 : n ≤ 16) :
    Calls Try.prog 7 #[.int .i64 n] w fun e w' => e = .returned (.int .i64 (2 ^ n.toNat)) ∧ w = w' := by
  obtain ⟨m, rfl⟩ := Int.eq_ofNat_of_zero_le h0
  rw [Int.toNat_natCast]
  go_enter Try.func7, Try.ntmps7
  go_wp2
  go_loop [3, 5] (fun v3 v5 => ∃ (k : Nat) (p : Int), k ≤ m ∧ 1 ≤ p ∧ p ≤ 65536 ∧ Hid (p = 2 ^ k) ∧ v5 = .int .i64 k ∧ v3 = .int .i64 p) (fun _ v5 => m - (intOf v5).toNat)
  case atStart => exact ⟨0, 1, Nat.zero_le _, by omega, by omega, rfl, rfl, rfl⟩
  case round =>
    obtain ⟨k, p, hk, hp0, hp1, hp, rfl, rfl⟩ := hrel
    by_cases hlt : k < m
    · have hb := pow2_step k (by omega)
      have hp2 : p ≤ 32768 := by rw [hp.out]; exact hb.2
      clear hb
      go_wp2
      go_round
      case rel => exact ⟨k + 1, p * 2, by omega, by omega, by omega, by simp only [Hid]; rw [hp.out, Int.pow_succ], by go_num, by go_num⟩
      case measure => simp [intOf]; omega
    · go_wp2
      go_ret
      exact ⟨ret_i1 (by rw [hp.out, show k = m by omega]), rfl⟩

set_option maxHeartbeats 1000000 in
theorem fillr_any (A : Option Addr) (n c : Nat) (xs : List Int) (B : Nat) (w : World) (r : RowsIn w B A n c (fun z => [.int .i64 z]) 1 xs) :
    Calls Try.prog 8 #[.slice A n c] w fun e w' => e = .returned (.tuple #[.int .i64 (fillV xs), .int .i64 (fillE xs)]) ∧ w = w' := by
  have hlen := r.len
  obtain rfl := hlen
  by_cases hL : 320 < xs.length
  · have F := Lib.hid (fill_large hL)
    go_enter Try.func8, Try.ntmps8
    go_wp2
    go_ret2
    exact ⟨ret_i2 F.out.1.symm F.out.2.symm, rfl⟩
  · rcases first_bad xs with hall | ⟨j, y, hj, hy, hbef⟩
    · have F := Lib.hid (fill_ok (by omega) hall)
      have HA := Lib.hid hall
      clear hall
      go_enter Try.func8, Try.ntmps8
      go_wp2
      go_loop [4, 5] (fun v4 v5 => ∃ v s : Int, -1 ≤ v ∧ v ≤ 15 ∧ 0 ≤ s ∧ s ≤ 16384 * xs.length ∧ Hid (s = fabove v xs) ∧ v5 = .int .i64 v ∧ v4 = .int .i64 s) (fun _ v5 => (intOf v5 + 1).toNat)
      case atStart => exact ⟨15, 0, by omega, by omega, by omega, by omega, (fabove_top xs HA.out).symm, rfl, rfl⟩
      case round =>
        obtain ⟨v, s, hv0, hv1, hs0, hs1, hs, rfl, rfl⟩ := hrel
        by_cases hv : 0 ≤ v
        · go_wp2
          go_loop [4, 17] (fun v4 v17 => ∃ (k : Nat) (t : Int), k ≤ xs.length ∧ 0 ≤ t ∧ t ≤ 16384 * xs.length + 16384 * k ∧ Hid (t = s + fat v (xs.take k)) ∧ v17 = .int .i64 k ∧ v4 = .int .i64 t) (fun _ v17 => xs.length - (intOf v17).toNat)
          case atStart => exact ⟨0, s, Nat.zero_le _, by omega, by omega, by simp [Hid, fat], rfl, rfl⟩
          case round =>
            obtain ⟨k, t, hk, ht0, ht1, ht, rfl, rfl⟩ := hrel
            by_cases hlt : k < xs.length
            · obtain ⟨b, o, rfl, hb, hc⟩ := r.one (List.getElem?_eq_getElem hlt)
              have hx := HA.out xs[k] (List.getElem_mem hlt)
              have HX := Lib.hid (fat_take v xs k _ (List.getElem?_eq_getElem hlt))
              have hbd := pw_bd hx.1 hx.2
              generalize xs[k] = x at *
              by_cases hxv : x = v
              · subst hxv
                by_cases hpos : 0 < x
                · have hp2 := pow2_step (15 - x).toNat (by omega)
                  have HS := Lib.hid (pw_step' t x hpos)
                  go_wp2_with (go_at_call 7; refine (pow2_any _ _ (by omega) (by omega)).mono ?_; rintro e w' ⟨rfl, rfl⟩)
                  go_round
                  case rel => exact ⟨k + 1, t + pw x, by omega, by omega, by omega, by simp only [Hid]; rw [HX.out, if_pos trivial, ht.out]; omega, by go_num, val_int HS.out⟩
                  case measure => simp [intOf]; omega
                · go_wp2
                  go_round
                  case rel => exact ⟨k + 1, t, by omega, by omega, by omega, by simp only [Hid]; rw [HX.out, ht.out, show pw x = 0 by unfold pw; rw [if_neg hpos]]; simp, by go_num, rfl⟩
                  case measure => simp [intOf]; omega
              · have hne : (x == v) = false := by simpa using hxv
                go_wp2
                go_round
                case rel => exact ⟨k + 1, t, by omega, by omega, by omega, by simp only [Hid]; rw [HX.out, ht.out, if_neg hxv]; omega, by go_num, rfl⟩
                case measure => simp [intOf]; omega
            · have h1 : Hid (t = fabove (v - 1) xs) := by
                simp only [Hid]; rw [ht.out, hs.out, fabove_step, List.take_of_length_le (by omega)]
              have h2 := fabove_bd (v - 1) xs HA.out
              rw [← h1.out] at h2
              go_wp2
              go_round
              case rel => exact ⟨v - 1, t, by omega, by omega, by omega, by omega, h1, by go_num, rfl⟩
              case measure => simp [intOf]; omega
        · go_wp2
          go_ret2
          exact ⟨ret_i2 (by rw [F.out.1, hs.out, show v = -1 by omega, fabove_low xs HA.out]) F.out.2.symm, rfl⟩
    · have hjl : j < xs.length := (List.getElem?_eq_some_iff.1 hj).1
      have F := Lib.hid (fill_bad (by omega) hj hy)
      have HA := Lib.hid hbef
      have HJ := Lib.hid hj
      clear hbef hj
      go_enter Try.func8, Try.ntmps8
      go_wp2
      refine wp_loop_rounds 1 ?_
      rw [rounds_succ]
      go_wp2
      go_loop [4, 17] (fun v4 v17 => ∃ (k : Nat) (s : Int), k ≤ j ∧ 0 ≤ s ∧ s ≤ 16384 * k ∧ v17 = .int .i64 k ∧ v4 = .int .i64 s) (fun _ v17 => xs.length - (intOf v17).toNat)
      case atStart => exact ⟨0, 0, Nat.zero_le _, by omega, by omega, rfl, rfl⟩
      case round =>
        obtain ⟨k, s, hk, hs0, hs1, rfl, rfl⟩ := hrel
        by_cases hlt : k < j
        · have hkl : k < xs.length := by omega
          obtain ⟨b, o, rfl, hb, hc⟩ := r.one (List.getElem?_eq_getElem hkl)
          have hx := HA.out k xs[k] hlt (List.getElem?_eq_getElem hkl)
          generalize xs[k] = x at *
          by_cases hx15 : x = 15
          · subst hx15
            go_wp2_with (go_at_call 7; refine (pow2_any _ _ (by omega) (by omega)).mono ?_; rintro e w' ⟨rfl, rfl⟩)
            go_round
            case rel => exact ⟨k + 1, s + 1, by omega, by omega, by omega, by go_num, by go_num⟩
            case measure => simp [intOf]; omega
          · have hne : (x == 15) = false := by simpa using hx15
            go_wp2
            go_round
            case rel => exact ⟨k + 1, s, by omega, by omega, by omega, by go_num, rfl⟩
            case measure => simp [intOf]; omega
        · obtain rfl : k = j := by omega
          obtain ⟨b, o, rfl, hb, hc⟩ := r.one HJ.out
          go_wp2
          all_goals go_ret2
          all_goals exact ⟨ret_i2 F.out.1.symm F.out.2.symm, rfl⟩
end Go.Proofs.Ytoncakcfibahaaa
