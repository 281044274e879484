/- huff.check, linenref.Freq, huff.Cost and linenref.Cost, walked. -/
import Derived.Test.YtdoaogfpahjmmaaCostP
import Derived.Test.YtdoaogfpahjmmaaFillW
namespace Go.Proofs.Ytdoaogfpahjmmaa
open Go.RowKit

set_option maxHeartbeats 400000 in
theorem hcheck_any (A : Option Addr) (n c : Nat) (xs : List Int) (B : Nat) (w : World) (r : RowsIn w B A n c (fun z => [.int .i64 z]) 1 xs) :
    Calls Try.prog 39 #[.slice A n c] w fun e w' => e = .returned (.int .i64 (freqE xs)) ∧ w = w' := by
  have hlen := r.len
  obtain rfl := hlen
  by_cases hL : 320 < xs.length
  · have F := Lib.hid (freqE_large hL)
    go_enter Try.func39, Try.ntmps39
    go_wp2
    go_ret
    exact ⟨ret_i1 F.out.symm, rfl⟩
  · have F := Lib.hid (freqE_list hL)
    go_enter Try.func39, Try.ntmps39
    go_wp2
    go_loop [10] (fun v10 => ∃ k : Nat, k ≤ xs.length ∧ Hid (freqE xs = freqL (xs.drop k)) ∧ v10 = .int .i64 k) (fun v10 => xs.length - (intOf v10).toNat)
    case atStart => exact ⟨0, Nat.zero_le _, F.out, rfl⟩
    case round =>
      obtain ⟨k, hk, hR, rfl⟩ := hrel
      by_cases hlt : k < xs.length
      · have e1 := List.getElem?_eq_getElem hlt
        obtain ⟨b, o, rfl, hb, hc⟩ := r.one e1
        generalize xs[k] = x at *
        by_cases h0 : x < 0
        · have G : Hid (freqE xs = 1) := by simp only [Hid]; rw [hR.out, freqL_neg e1 h0]
          clear e1
          go_wp2
          go_ret
          exact ⟨ret_i1 G.out.symm, rfl⟩
        · by_cases h1 : 1048576 < x
          · have G : Hid (freqE xs = 2) := by simp only [Hid]; rw [hR.out, freqL_big e1 h1]
            clear e1
            go_wp2
            go_ret
            exact ⟨ret_i1 G.out.symm, rfl⟩
          · have G : Hid (freqE xs = freqL (xs.drop (k + 1))) := by simp only [Hid]; rw [hR.out, freqL_ok e1 h0 h1]
            clear e1
            go_wp2
            go_round
            case rel => exact ⟨k + 1, by omega, G, by go_num⟩
            case measure => simp [intOf]; omega
      · have G : Hid (freqE xs = 0) := by simp only [Hid]; rw [hR.out, freqL_end (by omega)]
        go_wp2
        go_ret
        exact ⟨ret_i1 G.out.symm, rfl⟩

set_option maxHeartbeats 400000 in
theorem freq_any (A : Option Addr) (n c : Nat) (xs : List Int) (B : Nat) (w : World) (r : RowsIn w B A n c (fun z => [.int .i64 z]) 1 xs) :
    Calls Try.prog 28 #[.slice A n c] w fun e w' => e = .returned (.int .i64 (freqE xs)) ∧ w = w' := by
  have hlen := r.len
  obtain rfl := hlen
  by_cases hL : 320 < xs.length
  · have F := Lib.hid (freqE_large hL)
    go_enter Try.func28, Try.ntmps28
    go_wp2
    go_ret
    exact ⟨ret_i1 F.out.symm, rfl⟩
  · have F := Lib.hid (freqE_list hL)
    go_enter Try.func28, Try.ntmps28
    go_wp2
    go_loop [10] (fun v10 => ∃ k : Nat, k ≤ xs.length ∧ Hid (freqE xs = freqL (xs.drop k)) ∧ v10 = .int .i64 k) (fun v10 => xs.length - (intOf v10).toNat)
    case atStart => exact ⟨0, Nat.zero_le _, F.out, rfl⟩
    case round =>
      obtain ⟨k, hk, hR, rfl⟩ := hrel
      by_cases hlt : k < xs.length
      · have e1 := List.getElem?_eq_getElem hlt
        obtain ⟨b, o, rfl, hb, hc⟩ := r.one e1
        generalize xs[k] = x at *
        by_cases h0 : x < 0
        · have G : Hid (freqE xs = 1) := by simp only [Hid]; rw [hR.out, freqL_neg e1 h0]
          clear e1
          go_wp2
          go_ret
          exact ⟨ret_i1 G.out.symm, rfl⟩
        · by_cases h1 : 1048576 < x
          · have G : Hid (freqE xs = 2) := by simp only [Hid]; rw [hR.out, freqL_big e1 h1]
            clear e1
            go_wp2
            go_ret
            exact ⟨ret_i1 G.out.symm, rfl⟩
          · have G : Hid (freqE xs = freqL (xs.drop (k + 1))) := by simp only [Hid]; rw [hR.out, freqL_ok e1 h0 h1]
            clear e1
            go_wp2
            go_round
            case rel => exact ⟨k + 1, by omega, G, by go_num⟩
            case measure => simp [intOf]; omega
      · have G : Hid (freqE xs = 0) := by simp only [Hid]; rw [hR.out, freqL_end (by omega)]
        go_wp2
        go_ret
        exact ⟨ret_i1 G.out.symm, rfl⟩

set_option maxRecDepth 20000 in
set_option maxHeartbeats 1000000 in
theorem cost_any (A : Option Addr) (n c : Nat) (fs : List Int) (A' : Option Addr) (n' c' : Nat) (ls : List Int) (B B' : Nat) (w : World) (r : RowsIn w B A n c (fun z => [.int .i64 z]) 1 fs) (r' : RowsIn w B' A' n' c' (fun z => [.int .i64 z]) 1 ls) :
    Calls Try.prog 13 #[.slice A n c, .slice A' n' c'] w fun e w' => e = .returned (.tuple #[.int .i64 (costV fs ls), .int .i64 (costE fs ls)]) ∧ w = w' := by
  have hlen := r.len
  obtain rfl := hlen
  have hlen' := r'.len
  obtain rfl := hlen'
  have H1 := Lib.hid (hcheck_any A fs.length c fs B w r)
  have H2 := Lib.hid (fill_any A' ls.length c' ls B' w r')
  by_cases hE : freqE fs = 0
  · rw [hE] at H1
    by_cases hF : fillE ls = 0
    · rw [hF] at H2
      by_cases hn : ls.length = fs.length
      · have F := Lib.hid (cost_ok hE hF hn)
        obtain ⟨hz, HA⟩ := freqE_zero hE
        obtain ⟨hz', HA'⟩ := fillE_zero hF
        have HA := Lib.hid HA
        have HA' := Lib.hid HA'
        clear hE hF
        generalize fillV ls = fv at *
        rw [hn] at H2 r' ⊢
        have hn := Lib.hid hn
        clear hz'
        go_enter Try.func13, Try.ntmps13
        go_wp2_with (first
      | (go_at_call 39; refine H1.out.mono ?_; rintro e w' ⟨rfl, rfl⟩)
      | (go_at_call 40; refine H2.out.mono ?_; rintro e w' ⟨rfl, rfl⟩))

        go_loop [9, 32] (fun v9 v32 => ∃ (k : Nat) (s : Int), k ≤ fs.length ∧ 0 ≤ s ∧ s ≤ 15728640 * k ∧ Hid (s = dot (fs.take k) (ls.take k)) ∧ v32 = .int .i64 k ∧ v9 = .int .i64 s) (fun _ v32 => fs.length - (intOf v32).toNat)
        case atStart => exact ⟨0, 0, Nat.zero_le _, by omega, by omega, rfl, rfl, rfl⟩
        case round =>
          obtain ⟨k, s, hk, hs0, hs1, hs, rfl, rfl⟩ := hrel
          by_cases hlt : k < fs.length
          · have hlt' : k < ls.length := by rw [hn.out]; omega
            have e1 := List.getElem?_eq_getElem hlt
            have e2 := List.getElem?_eq_getElem hlt'
            obtain ⟨b, o, rfl, hb, hc⟩ := r.one e1
            obtain ⟨b', o', rfl, hb', hc'⟩ := r'.one e2
            have hx := HA.out fs[k] (List.getElem_mem hlt)
            have hy := HA'.out ls[k] (List.getElem_mem hlt')
            have HD := Lib.hid (dot_take e1 e2)
            generalize fs[k] = x at *
            generalize ls[k] = y at *
            have hp := prod_bd hx.1 hx.2 hy.1 hy.2
            have w1 : IntKind.i64.wrap (x * y) = x * y := by rw [IntKind.wrap_i64]; omega
            have w2 : IntKind.i64.wrap (s + x * y) = s + x * y := by rw [IntKind.wrap_i64]; omega
            have w1' : wrap64 (x * y) = x * y := by unfold wrap64; omega
            have w2' : wrap64 (s + x * y) = s + x * y := by unfold wrap64; omega
            clear e1 e2
            have HW := Lib.hid w1
            have HW2 := Lib.hid w2
            have HW1' := Lib.hid w1'
            have HW2' := Lib.hid w2'
            generalize hq : x * y = q at *
            clear w1 w2 w1' w2'
            go_wp2
            go_round
            case rel => exact ⟨k + 1, s + q, by omega, by omega, by omega, by simp only [Hid]; rw [HD.out, ← hs.out], by go_num, val_int (by first | rfl | (rw [hq]; first | rfl | rw [HW1'.out, HW2'.out] | rw [HW.out, HW2.out] | omega))⟩
            case measure => simp [intOf]; omega
          · have hk2 : fs.length ≤ k := by omega
            have F1 : Hid (s = costV fs ls) := by simp only [Hid]; rw [F.out.1, hs.out, dot_all hk2 (by rw [hn.out]; omega)]
            go_wp2
            go_ret2
            exact ⟨ret_i2 F1.out F.out.2.symm, rfl⟩

      · have F := Lib.hid (cost_len hE hF hn)
        have hn1 : ((ls.length : Int) != (fs.length : Int)) = true := by rw [bne_iff_ne]; omega
        have hn2 : ¬ ls.length = fs.length := hn
        clear hE hF
        generalize fillV ls = fv at *
        go_enter Try.func13, Try.ntmps13
        go_wp2_with (first
      | (go_at_call 39; refine H1.out.mono ?_; rintro e w' ⟨rfl, rfl⟩)
      | (go_at_call 40; refine H2.out.mono ?_; rintro e w' ⟨rfl, rfl⟩))
        go_ret2
        exact ⟨ret_i2 F.out.1.symm F.out.2.symm, rfl⟩
    · have F := Lib.hid (cost_fill hE hF)
      have hne : (fillE ls != 0) = true := bne_iff_ne.2 hF
      clear hE hF
      generalize fillV ls = fv at *
      generalize fillE ls = fe at *
      go_enter Try.func13, Try.ntmps13
      go_wp2_with (first
      | (go_at_call 39; refine H1.out.mono ?_; rintro e w' ⟨rfl, rfl⟩)
      | (go_at_call 40; refine H2.out.mono ?_; rintro e w' ⟨rfl, rfl⟩))
      go_ret2
      exact ⟨ret_i2 F.out.1.symm F.out.2.symm, rfl⟩
  · have F := Lib.hid (cost_freq (l := ls) hE)
    have hne : (freqE fs != 0) = true := bne_iff_ne.2 hE
    clear hE
    generalize freqE fs = fe at *
    go_enter Try.func13, Try.ntmps13
    go_wp2_with (first
      | (go_at_call 39; refine H1.out.mono ?_; rintro e w' ⟨rfl, rfl⟩)
      | (go_at_call 40; refine H2.out.mono ?_; rintro e w' ⟨rfl, rfl⟩))
    go_ret2
    exact ⟨ret_i2 F.out.1.symm F.out.2.symm, rfl⟩

set_option maxRecDepth 20000 in
set_option maxHeartbeats 1000000 in
theorem costr_any (A : Option Addr) (n c : Nat) (fs : List Int) (A' : Option Addr) (n' c' : Nat) (ls : List Int) (B B' : Nat) (w : World) (r : RowsIn w B A n c (fun z => [.int .i64 z]) 1 fs) (r' : RowsIn w B' A' n' c' (fun z => [.int .i64 z]) 1 ls) :
    Calls Try.prog 14 #[.slice A n c, .slice A' n' c'] w fun e w' => e = .returned (.tuple #[.int .i64 (costV fs ls), .int .i64 (costE fs ls)]) ∧ w = w' := by
  have hlen := r.len
  obtain rfl := hlen
  have hlen' := r'.len
  obtain rfl := hlen'
  have H1 := Lib.hid (freq_any A fs.length c fs B w r)
  have H2 := Lib.hid (fillr_any A' ls.length c' ls B' w r')
  by_cases hE : freqE fs = 0
  · rw [hE] at H1
    by_cases hF : fillE ls = 0
    · rw [hF] at H2
      by_cases hn : ls.length = fs.length
      · have F := Lib.hid (cost_ok hE hF hn)
        obtain ⟨hz, HA⟩ := freqE_zero hE
        obtain ⟨hz', HA'⟩ := fillE_zero hF
        have HA := Lib.hid HA
        have HA' := Lib.hid HA'
        clear hE hF
        generalize fillV ls = fv at *
        rw [hn] at H2 r' ⊢
        have hn := Lib.hid hn
        clear hz'
        go_enter Try.func14, Try.ntmps14
        go_wp2_with (first
      | (go_at_call 28; refine H1.out.mono ?_; rintro e w' ⟨rfl, rfl⟩)
      | (go_at_call 31; refine H2.out.mono ?_; rintro e w' ⟨rfl, rfl⟩))

        go_loop [9, 31] (fun v9 v31 => ∃ (k : Nat) (s : Int), k ≤ fs.length ∧ 0 ≤ s ∧ s ≤ 15728640 * k ∧ Hid (s = dot (fs.take k) (ls.take k)) ∧ v31 = .int .i64 k ∧ v9 = .int .i64 s) (fun _ v31 => fs.length - (intOf v31).toNat)
        case atStart => exact ⟨0, 0, Nat.zero_le _, by omega, by omega, rfl, rfl, rfl⟩
        case round =>
          obtain ⟨k, s, hk, hs0, hs1, hs, rfl, rfl⟩ := hrel
          by_cases hlt : k < fs.length
          · have hlt' : k < ls.length := by rw [hn.out]; omega
            have e1 := List.getElem?_eq_getElem hlt
            have e2 := List.getElem?_eq_getElem hlt'
            obtain ⟨b, o, rfl, hb, hc⟩ := r.one e1
            obtain ⟨b', o', rfl, hb', hc'⟩ := r'.one e2
            have hx := HA.out fs[k] (List.getElem_mem hlt)
            have hy := HA'.out ls[k] (List.getElem_mem hlt')
            have HD := Lib.hid (dot_take e1 e2)
            generalize fs[k] = x at *
            generalize ls[k] = y at *
            clear e1 e2
            obtain ⟨hx0, hx1⟩ := hx
            obtain ⟨hy0, hy1⟩ := hy
            obtain ⟨Y, rfl⟩ := Int.eq_ofNat_of_zero_le hy0
            go_wp2
            go_loop [9, 38] (fun v9 v38 => ∃ (j : Nat) (t : Int), j ≤ Y ∧ s ≤ t ∧ t ≤ s + 1048576 * j ∧ Hid (t = s + x * j) ∧ v38 = .int .i64 j ∧ v9 = .int .i64 t) (fun _ v38 => Y - (intOf v38).toNat)
            case atStart => exact ⟨0, s, Nat.zero_le _, by omega, by omega, by simp [Hid], rfl, rfl⟩
            case round =>
              obtain ⟨j, t, hj, ht0, ht1, ht, rfl, rfl⟩ := hrel
              by_cases hjl : j < Y
              · go_wp2
                go_round
                case rel => exact ⟨j + 1, t + x, by omega, by omega, by omega, by simp only [Hid]; rw [ht.out, Int.natCast_succ, Int.mul_add]; omega, by go_num, by go_num⟩
                case measure => simp [intOf]; omega
              · have hjy : j = Y := by omega
                subst hjy
                have G : Hid (t = dot (fs.take (k + 1)) (ls.take (k + 1))) := by simp only [Hid]; rw [HD.out, ht.out, ← hs.out]
                go_wp2
                go_round
                case rel => exact ⟨k + 1, t, by omega, by omega, by omega, G, by go_num, rfl⟩
                case measure => simp [intOf]; omega
          · have hk2 : fs.length ≤ k := by omega
            have F1 : Hid (s = costV fs ls) := by simp only [Hid]; rw [F.out.1, hs.out, dot_all hk2 (by rw [hn.out]; omega)]
            go_wp2
            go_ret2
            exact ⟨ret_i2 F1.out F.out.2.symm, rfl⟩

      · have F := Lib.hid (cost_len hE hF hn)
        have hn1 : ((ls.length : Int) != (fs.length : Int)) = true := by rw [bne_iff_ne]; omega
        have hn2 : ¬ ls.length = fs.length := hn
        clear hE hF
        generalize fillV ls = fv at *
        go_enter Try.func14, Try.ntmps14
        go_wp2_with (first
      | (go_at_call 28; refine H1.out.mono ?_; rintro e w' ⟨rfl, rfl⟩)
      | (go_at_call 31; refine H2.out.mono ?_; rintro e w' ⟨rfl, rfl⟩))
        go_ret2
        exact ⟨ret_i2 F.out.1.symm F.out.2.symm, rfl⟩
    · have F := Lib.hid (cost_fill hE hF)
      have hne : (fillE ls != 0) = true := bne_iff_ne.2 hF
      clear hE hF
      generalize fillV ls = fv at *
      generalize fillE ls = fe at *
      go_enter Try.func14, Try.ntmps14
      go_wp2_with (first
      | (go_at_call 28; refine H1.out.mono ?_; rintro e w' ⟨rfl, rfl⟩)
      | (go_at_call 31; refine H2.out.mono ?_; rintro e w' ⟨rfl, rfl⟩))
      go_ret2
      exact ⟨ret_i2 F.out.1.symm F.out.2.symm, rfl⟩
  · have F := Lib.hid (cost_freq (l := ls) hE)
    have hne : (freqE fs != 0) = true := bne_iff_ne.2 hE
    clear hE
    generalize freqE fs = fe at *
    go_enter Try.func14, Try.ntmps14
    go_wp2_with (first
      | (go_at_call 28; refine H1.out.mono ?_; rintro e w' ⟨rfl, rfl⟩)
      | (go_at_call 31; refine H2.out.mono ?_; rintro e w' ⟨rfl, rfl⟩))
    go_ret2
    exact ⟨ret_i2 F.out.1.symm F.out.2.symm, rfl⟩

end Go.Proofs.Ytdoaogfpahjmmaa
