/- huff.check and linenref.Freq, walked. -/
import Derived.Test.YtoncakcfibahaaaCostP
import Derived.Test.YtoncakcfibahaaaFillW
namespace Go.Proofs.Ytoncakcfibahaaa
open Go.RowKit

set_option maxHeartbeats 400000 in
theorem hcheck_any (A : Option Addr) (n c : Nat) (xs : List Int) (B : Nat) (w : World) (r : RowsIn w B A n c (fun z => [.int .i64 z]) 1 xs) :
    Calls Try.prog 9 #[.slice A n c] w fun e w' => e = .returned (.int .i64 (freqE xs)) ∧ w = w' := by
  have hlen := r.len
  obtain rfl := hlen
  by_cases hL : 320 < xs.length
  · have F := Lib.hid (freqE_large hL)
    go_enter Try.func9, Try.ntmps9
    go_wp2
    go_ret
    exact ⟨ret_i1 F.out.symm, rfl⟩
  · have F := Lib.hid (freqE_list hL)
    go_enter Try.func9, Try.ntmps9
    go_wp2
    go_loop [10] (fun v10 => ∃ k : Nat, k ≤ xs.length ∧ Hid (freqE xs = freqL (xs.drop k)) ∧ v10 = .int .i64 k) (fun v10 => xs.length - (intOf v10).toNat)
    case atStart => exact ⟨0, Nat.zero_le _, F.out, rfl⟩
    case round =>
      obtain ⟨k, hk, hR, rfl⟩ := hrel
      by_cases hlt : k < xs.length
      · have e1 := List.getElem?_eq_getElem hlt
        obtain ⟨b, o, rfl, hb, hc⟩ := r.one e1
        generalize xs[k] = x at *
        by_cases h0 : x < 0
        · have G : Hid (freqE xs = 1) := by simp only [Hid]; rw [hR.out, freqL_neg e1 h0]
          clear e1
          go_wp2
          go_ret
          exact ⟨ret_i1 G.out.symm, rfl⟩
        · by_cases h1 : 1048576 < x
          · have G : Hid (freqE xs = 2) := by simp only [Hid]; rw [hR.out, freqL_big e1 h1]
            clear e1
            go_wp2
            go_ret
            exact ⟨ret_i1 G.out.symm, rfl⟩
          · have G : Hid (freqE xs = freqL (xs.drop (k + 1))) := by simp only [Hid]; rw [hR.out, freqL_ok e1 h0 h1]
            clear e1
            go_wp2
            go_round
            case rel => exact ⟨k + 1, by omega, G, by go_num⟩
            case measure => simp [intOf]; omega
      · have G : Hid (freqE xs = 0) := by simp only [Hid]; rw [hR.out, freqL_end (by omega)]
        go_wp2
        go_ret
        exact ⟨ret_i1 G.out.symm, rfl⟩

set_option maxHeartbeats 400000 in
theorem freq_any (A : Option Addr) (n c : Nat) (xs : List Int) (B : Nat) (w : World) (r : RowsIn w B A n c (fun z => [.int .i64 z]) 1 xs) :
    Calls Try.prog 5 #[.slice A n c] w fun e w' => e = .returned (.int .i64 (freqE xs)) ∧ w = w' := by
  have hlen := r.len
  obtain rfl := hlen
  by_cases hL : 320 < xs.length
  · have F := Lib.hid (freqE_large hL)
    go_enter Try.func5, Try.ntmps5
    go_wp2
    go_ret
    exact ⟨ret_i1 F.out.symm, rfl⟩
  · have F := Lib.hid (freqE_list hL)
    go_enter Try.func5, Try.ntmps5
    go_wp2
    go_loop [10] (fun v10 => ∃ k : Nat, k ≤ xs.length ∧ Hid (freqE xs = freqL (xs.drop k)) ∧ v10 = .int .i64 k) (fun v10 => xs.length - (intOf v10).toNat)
    case atStart => exact ⟨0, Nat.zero_le _, F.out, rfl⟩
    case round =>
      obtain ⟨k, hk, hR, rfl⟩ := hrel
      by_cases hlt : k < xs.length
      · have e1 := List.getElem?_eq_getElem hlt
        obtain ⟨b, o, rfl, hb, hc⟩ := r.one e1
        generalize xs[k] = x at *
        by_cases h0 : x < 0
        · have G : Hid (freqE xs = 1) := by simp only [Hid]; rw [hR.out, freqL_neg e1 h0]
          clear e1
          go_wp2
          go_ret
          exact ⟨ret_i1 G.out.symm, rfl⟩
        · by_cases h1 : 1048576 < x
          · have G : Hid (freqE xs = 2) := by simp only [Hid]; rw [hR.out, freqL_big e1 h1]
            clear e1
            go_wp2
            go_ret
            exact ⟨ret_i1 G.out.symm, rfl⟩
          · have G : Hid (freqE xs = freqL (xs.drop (k + 1))) := by simp only [Hid]; rw [hR.out, freqL_ok e1 h0 h1]
            clear e1
            go_wp2
            go_round
            case rel => exact ⟨k + 1, by omega, G, by go_num⟩
            case measure => simp [intOf]; omega
      · have G : Hid (freqE xs = 0) := by simp only [Hid]; rw [hR.out, freqL_end (by omega)]
        go_wp2
        go_ret
        exact ⟨ret_i1 G.out.symm, rfl⟩
end Go.Proofs.Ytoncakcfibahaaa
