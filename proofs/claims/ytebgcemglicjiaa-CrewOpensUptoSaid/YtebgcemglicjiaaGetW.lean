/- num.Get and its reference, walked: what they say of the varint at the beginning of s. -/
import Derived.Test.YtebgcemglicjiaaPlJa
import Derived.Test.YtebgcemglicjiaaOwJa
import Derived.PlainAid
namespace Go.Proofs.Ytebgcemglicjiaa
open Go.RowKit Go.PlainAid

set_option maxRecDepth 20000 in
set_option maxHeartbeats 400000 in
theorem get_any (s : ByteArray) (w : World) :
    Calls Try.prog 47 #[.string s] w fun e w' => e = .returned (.tuple #[.int .u64 (getV (bt s) s.size), .int .i64 (getN (bt s) s.size), .int .i64 (getE (bt s) s.size)]) ∧ w = w' := by
  have hgb := get_bt s
  go_enter Try.func47, Try.ntmps47
  go_wp2
  go_loop [5, 6] (fun v5 v6 => ∃ (k : Nat) (v : Int), k ≤ getK (bt s) s.size ∧ Hid (v = vsum (bt s) k) ∧ v6 = .int .i64 k ∧ v5 = .int .u64 v) (fun _ v6 => 10 - (intOf v6).toNat)
  case atStart => exact ⟨0, 0, Nat.zero_le _, rfl, rfl, rfl⟩
  case round =>
    obtain ⟨k, v, hk, hv, rfl, rfl⟩ := hrel
    obtain ⟨hK9, hKl, hKb, hKe⟩ := getK_spec (bt s) s.size
    have hb0 := bt_nonneg s k
    have hb1 := bt_le s k
    by_cases hlt : k < getK (bt s) s.size
    · have hb := hKb k hlt
      clear hKb hKe
      go_wp2
      all_goals
        go_round
        case rel => exact ⟨k + 1, _, by omega, rfl, by go_num, val_int (join7b (bt s) k v hv.out hb0 hb1 (by omega) (by omega))⟩
        case measure => simp [intOf]; omega
    · obtain rfl : k = getK (bt s) s.size := by omega
      by_cases hend : getK (bt s) s.size = s.size
      · have F := Lib.hid (getE_short hend)
        have hend' : ((getK (bt s) s.size : Int) == (s.size : Int)) = true := by rw [hend]; simp
        clear hKb hKe hend
        go_wp2
        go_ret3
        exact ⟨ret_i3 F.out.2.2.symm F.out.2.1.symm F.out.1.symm, rfl⟩
      · have hend' : ((getK (bt s) s.size : Int) == (s.size : Int)) = false := by simp; omega
        have hKl' : getK (bt s) s.size < s.size := by omega
        have hk10 : getK (bt s) s.size < 10 := by omega
        by_cases hbad : (getK (bt s) s.size = 9 ∧ 1 < bt s (getK (bt s) s.size)) ∨ (0 < getK (bt s) s.size ∧ bt s (getK (bt s) s.size) = 0)
        · have F := Lib.hid (getE_form hend hbad)
          have HB := Lib.hid hbad
          clear hKb hKe hbad
          go_wp2
          all_goals first
            | (go_ret3; exact ⟨ret_i3 F.out.2.2.symm F.out.2.1.symm F.out.1.symm, rfl⟩)
            | (exfalso; rcases HB.out with ⟨h1, h2⟩ | ⟨h1, h2⟩ <;> first | omega | (simp_all; done))
        · have F := Lib.hid (getE_ok hend hbad)
          have hx : getK (bt s) s.size < 9 → bt s (getK (bt s) s.size) < 128 := fun h => hKe (by omega) h
          have h9 : getK (bt s) s.size = 9 → bt s (getK (bt s) s.size) ≤ 1 := fun h => by
            rcases Int.lt_or_le 1 (bt s (getK (bt s) s.size)) with h1 | h1
            · exact absurd (Or.inl ⟨h, h1⟩) hbad
            · exact h1
          have hz : 0 < getK (bt s) s.size → (bt s (getK (bt s) s.size) == 0) = false := fun h => by
            rw [beq_eq_false_iff_ne]
            exact fun e => hbad (Or.inr ⟨h, e⟩)
          have HV := Lib.hid (join7b (bt s) (getK (bt s) s.size) v hv.out hb0 hb1 hK9 h9)
          clear hKb hKe hbad
          rcases (show getK (bt s) s.size = 9 ∨ (0 < getK (bt s) s.size ∧ getK (bt s) s.size < 9) ∨ getK (bt s) s.size ≤ 0 by omega) with h | ⟨h, h'⟩ | h
          · have h9' := h9 h
            have hz' := hz (by omega)
            have h1 : 9 ≤ getK (bt s) s.size := by omega
            have H9 := Lib.hid h
            clear h h9 hz hx
            go_wp2
            go_ret3
            exact ⟨ret_i3 (by rw [F.out.2.2, ← HV.out, H9.out]; simp) (by rw [F.out.2.1, H9.out]; rfl) F.out.1.symm, rfl⟩
          · have hz' := hz h
            have hx' := hx h'
            clear h9 hz hx
            go_wp2
            go_ret3
            exact ⟨ret_i3 (by rw [F.out.2.2, ← HV.out]) F.out.2.1.symm F.out.1.symm, rfl⟩
          · have hx' := hx (by omega)
            clear h9 hz hx
            go_wp2
            go_ret3
            exact ⟨ret_i3 (by rw [F.out.2.2, ← HV.out]) F.out.2.1.symm F.out.1.symm, rfl⟩

set_option maxRecDepth 20000 in
set_option maxHeartbeats 1000000 in
theorem getr_core (s : ByteArray) (w : World) (hs : s.size ≤ 9223372036854775807) (K : Nat) (hK : getK (bt s) s.size = K) (c : (K = 9) ∨ (0 < K ∧ K < 9) ∨ K = 0) :
    Calls Try.prog 10 #[.string s] w fun e w' => e = .returned (.tuple #[.int .u64 (getV (bt s) s.size), .int .i64 (getN (bt s) s.size), .int .i64 (getE (bt s) s.size)]) ∧ w = w' := by
  have hgb := get_bt s
  have hb0 := bt_nonneg s
  have hb1 := bt_le s
  obtain ⟨hK9, hKl, hKb, hKe⟩ := getK_spec (bt s) s.size
  have FE := @getE_short (bt s) s.size
  have FF := @getE_form (bt s) s.size
  have FO := @getE_ok (bt s) s.size
  have FT := vsum_top (bt s) s.size hb0
  rw [hK] at hK9 hKl hKb hKe FE FF FO FT
  have HB := Lib.hid hKb
  have HE := Lib.hid hKe
  have HFE := Lib.hid FE
  have HFF := Lib.hid FF
  have HFO := Lib.hid FO
  have HFT := Lib.hid FT
  have Hb0 := Lib.hid hb0
  have Hb1 := Lib.hid hb1
  clear hKb hKe FE FF FO FT hK hb0 hb1
  have hbK0 := Hb0.out K
  have hbK1 := Hb1.out K
  rcases c with rfl | ⟨hc, hc'⟩ | rfl
  all_goals
    go_enter Try.func10, Try.ntmps10
    go_wp2
  · go_loop [5] (fun v5 => ∃ k : Nat, k ≤ 9 ∧ v5 = .int .i64 k) (fun v5 => 10 - (intOf v5).toNat)
    case atStart => exact ⟨0, Nat.zero_le _, rfl⟩
    case round =>
      obtain ⟨k, hk, rfl⟩ := hrel
      by_cases hlt : k < 9
      · have hb := HB.out k hlt
        have hk9 : ((k : Int) == 9) = false := by rw [beq_eq_false_iff_ne]; omega
        go_wp2
        all_goals
          go_round
          case rel => exact ⟨k + 1, by omega, by go_num⟩
          case measure => simp [intOf]; omega
      · obtain rfl : k = 9 := by omega
        by_cases hend : s.size = 9
        · have F := Lib.hid (HFE.out hend.symm)
          have hend' : (((9 : Nat) : Int) == (s.size : Int)) = true := by rw [hend]; simp
          have h1 : s.size ≤ 9 := by omega
          clear hend
          go_wp2
          go_ret3
          exact ⟨ret_i3 F.out.2.2.symm F.out.2.1.symm F.out.1.symm, rfl⟩
        · have hend' : (((9 : Nat) : Int) == (s.size : Int)) = false := by rw [beq_eq_false_iff_ne]; omega
          have h1 : 9 < s.size := by omega
          have hne : 9 ≠ s.size := by omega
          by_cases hbad : (9 = 9 ∧ 1 < bt s 9) ∨ (0 < 9 ∧ bt s 9 = 0)
          · have F := Lib.hid (HFF.out hne (by first | exact hbad | simpa using hbad))
            rcases hbad with ⟨_, h2⟩ | ⟨_, h2⟩
            · clear hend hne
              go_wp2
              all_goals go_ret3
              all_goals exact ⟨ret_i3 F.out.2.2.symm F.out.2.1.symm F.out.1.symm, rfl⟩
            · clear hend hne
              go_wp2
              all_goals go_ret3
              all_goals exact ⟨ret_i3 F.out.2.2.symm F.out.2.1.symm F.out.1.symm, rfl⟩
          · have F := Lib.hid (HFO.out hne (by first | exact hbad | simpa using hbad))
            have HT := Lib.hid (HFT.out F.out.1)
            have h9 : bt s 9 ≤ 1 := by
              rcases Int.lt_or_le 1 (bt s 9) with h | h
              · exact absurd (Or.inl ⟨rfl, h⟩) hbad
              · exact h
            have hz : (bt s 9 == 0) = false := by
              rw [beq_eq_false_iff_ne]; exact fun e => hbad (Or.inr ⟨by omega, e⟩)
            clear hend hbad hne
            go_wp2
            go_loop [6, 7] (fun v6 v7 => ∃ i v : Int, -1 ≤ i ∧ i ≤ 9 ∧ 0 ≤ v ∧ Hid (v * 128 ^ (i + 1).toNat + vsum (bt s) (i + 1).toNat = vsum (bt s) (9 + 1)) ∧ v7 = .int .i64 i ∧ v6 = .int .u64 v) (fun _ v7 => (intOf v7 + 1).toNat)
            case atStart => exact ⟨9, 0, by omega, by omega, by omega, by simp only [Hid]; rw [show ((9 : Int) + 1).toNat = 9 + 1 by omega]; omega, rfl, rfl⟩
            case round =>
              obtain ⟨i, v, hi0, hi1, hv0, hv, rfl, rfl⟩ := hrel
              by_cases hi : 0 ≤ i
              · have hbi0 := Hb0.out i.toNat
                have hbi1 := Hb1.out i.toNat
                obtain ⟨q1, q2, q3⟩ := horner (bt s) _ v i.toNat hv0 (by rw [← hv.out, show (i + 1).toNat = i.toNat + 1 by omega]) HT.out
                have Q1 := Lib.hid q1
                clear q1
                go_wp2
                go_round
                case rel => exact ⟨i - 1, _, by omega, by omega, by omega, by simp only [Hid]; rw [show (i - 1 + 1).toNat = i.toNat by omega]; exact Q1.out, by go_num, rfl⟩
                case measure => simp [intOf]; omega
              · go_wp2
                go_ret3
                exact ⟨ret_i3 (by rw [F.out.2.2, ← hv.out, show i = -1 by omega]; simp [vsum]) (by have := F.out.2.1; omega) F.out.1.symm, rfl⟩
  · go_loop [5] (fun v5 => ∃ k : Nat, k ≤ K ∧ v5 = .int .i64 k) (fun v5 => 10 - (intOf v5).toNat)
    case atStart => exact ⟨0, Nat.zero_le _, rfl⟩
    case round =>
      obtain ⟨k, hk, rfl⟩ := hrel
      by_cases hlt : k < K
      · have hb := HB.out k hlt
        have hk9 : ((k : Int) == 9) = false := by rw [beq_eq_false_iff_ne]; omega
        go_wp2
        all_goals
          go_round
          case rel => exact ⟨k + 1, by omega, by go_num⟩
          case measure => simp [intOf]; omega
      · obtain rfl : k = K := by omega
        by_cases hend : s.size = k
        · have F := Lib.hid (HFE.out hend.symm)
          have hend' : (((k : Nat) : Int) == (s.size : Int)) = true := by rw [hend]; simp
          have h1 : s.size ≤ k := by omega
          clear hend
          have hk9 : ((k : Int) == 9) = false := by rw [beq_eq_false_iff_ne]; omega
          go_wp2
          go_ret3
          exact ⟨ret_i3 F.out.2.2.symm F.out.2.1.symm F.out.1.symm, rfl⟩
        · have hend' : (((k : Nat) : Int) == (s.size : Int)) = false := by rw [beq_eq_false_iff_ne]; omega
          have h1 : k < s.size := by omega
          have hne : k ≠ s.size := by omega
          have hk9 : ((k : Int) == 9) = false := by rw [beq_eq_false_iff_ne]; omega
          by_cases hbad : (k = 9 ∧ 1 < bt s k) ∨ (0 < k ∧ bt s k = 0)
          · have F := Lib.hid (HFF.out hne (by first | exact hbad | simpa using hbad))
            have h2 : bt s k = 0 := by rcases hbad with ⟨h, _⟩ | ⟨_, h⟩ <;> first | omega | exact h
            clear hend hne hbad
            go_wp2
            go_ret3
            exact ⟨ret_i3 F.out.2.2.symm F.out.2.1.symm F.out.1.symm, rfl⟩
          · have F := Lib.hid (HFO.out hne (by first | exact hbad | simpa using hbad))
            have HT := Lib.hid (HFT.out F.out.1)
            have hz : (bt s k == 0) = false := by
              rw [beq_eq_false_iff_ne]; exact fun e => hbad (Or.inr ⟨by omega, e⟩)
            have hx := HE.out h1 hc'
            clear hend hbad hne
            go_wp2
            go_loop [6, 7] (fun v6 v7 => ∃ i v : Int, -1 ≤ i ∧ i ≤ k ∧ 0 ≤ v ∧ Hid (v * 128 ^ (i + 1).toNat + vsum (bt s) (i + 1).toNat = vsum (bt s) (k + 1)) ∧ v7 = .int .i64 i ∧ v6 = .int .u64 v) (fun _ v7 => (intOf v7 + 1).toNat)
            case atStart => exact ⟨k, 0, by omega, by omega, by omega, by simp only [Hid]; rw [show ((k : Int) + 1).toNat = k + 1 by omega]; omega, rfl, rfl⟩
            case round =>
              obtain ⟨i, v, hi0, hi1, hv0, hv, rfl, rfl⟩ := hrel
              by_cases hi : 0 ≤ i
              · have hbi0 := Hb0.out i.toNat
                have hbi1 := Hb1.out i.toNat
                obtain ⟨q1, q2, q3⟩ := horner (bt s) _ v i.toNat hv0 (by rw [← hv.out, show (i + 1).toNat = i.toNat + 1 by omega]) HT.out
                have Q1 := Lib.hid q1
                clear q1
                go_wp2
                go_round
                case rel => exact ⟨i - 1, _, by omega, by omega, by omega, by simp only [Hid]; rw [show (i - 1 + 1).toNat = i.toNat by omega]; exact Q1.out, by go_num, rfl⟩
                case measure => simp [intOf]; omega
              · go_wp2
                go_ret3
                exact ⟨ret_i3 (by rw [F.out.2.2, ← hv.out, show i = -1 by omega]; simp [vsum]) (by have := F.out.2.1; omega) F.out.1.symm, rfl⟩
  · go_loop [5] (fun v5 => ∃ k : Nat, k ≤ 0 ∧ v5 = .int .i64 k) (fun v5 => 10 - (intOf v5).toNat)
    case atStart => exact ⟨0, Nat.zero_le _, rfl⟩
    case round =>
      obtain ⟨k, hk, rfl⟩ := hrel
      by_cases hlt : k < 0
      · have hb := HB.out k hlt
        have hk9 : ((k : Int) == 9) = false := by rw [beq_eq_false_iff_ne]; omega
        go_wp2
        all_goals
          go_round
          case rel => exact ⟨k + 1, by omega, by go_num⟩
          case measure => simp [intOf]; omega
      · obtain rfl : k = 0 := by omega
        by_cases hend : s.size = 0
        · have F := Lib.hid (HFE.out hend.symm)
          have hend' : (((0 : Nat) : Int) == (s.size : Int)) = true := by rw [hend]; simp
          have h1 : s.size ≤ 0 := by omega
          clear hend
          go_wp2
          go_ret3
          exact ⟨ret_i3 F.out.2.2.symm F.out.2.1.symm F.out.1.symm, rfl⟩
        · have hend' : (((0 : Nat) : Int) == (s.size : Int)) = false := by rw [beq_eq_false_iff_ne]; omega
          have h1 : 0 < s.size := by omega
          have hne : 0 ≠ s.size := by omega
          by_cases hbad : (0 = 9 ∧ 1 < bt s 0) ∨ (0 < 0 ∧ bt s 0 = 0)
          · have F := Lib.hid (HFF.out hne (by first | exact hbad | simpa using hbad))
            exfalso; rcases hbad with ⟨h, _⟩ | ⟨h, _⟩ <;> omega
          · have F := Lib.hid (HFO.out hne (by first | exact hbad | simpa using hbad))
            have HT := Lib.hid (HFT.out F.out.1)
            have hx := HE.out h1 (by omega)
            clear hend hbad hne
            go_wp2
            go_loop [6, 7] (fun v6 v7 => ∃ i v : Int, -1 ≤ i ∧ i ≤ 0 ∧ 0 ≤ v ∧ Hid (v * 128 ^ (i + 1).toNat + vsum (bt s) (i + 1).toNat = vsum (bt s) (0 + 1)) ∧ v7 = .int .i64 i ∧ v6 = .int .u64 v) (fun _ v7 => (intOf v7 + 1).toNat)
            case atStart => exact ⟨0, 0, by omega, by omega, by omega, by simp only [Hid]; rw [show ((0 : Int) + 1).toNat = 0 + 1 by omega]; omega, rfl, rfl⟩
            case round =>
              obtain ⟨i, v, hi0, hi1, hv0, hv, rfl, rfl⟩ := hrel
              by_cases hi : 0 ≤ i
              · have hbi0 := Hb0.out i.toNat
                have hbi1 := Hb1.out i.toNat
                obtain ⟨q1, q2, q3⟩ := horner (bt s) _ v i.toNat hv0 (by rw [← hv.out, show (i + 1).toNat = i.toNat + 1 by omega]) HT.out
                have Q1 := Lib.hid q1
                clear q1
                go_wp2
                go_round
                case rel => exact ⟨i - 1, _, by omega, by omega, by omega, by simp only [Hid]; rw [show (i - 1 + 1).toNat = i.toNat by omega]; exact Q1.out, by go_num, rfl⟩
                case measure => simp [intOf]; omega
              · go_wp2
                go_ret3
                exact ⟨ret_i3 (by rw [F.out.2.2, ← hv.out, show i = -1 by omega]; simp [vsum]) (by have := F.out.2.1; omega) F.out.1.symm, rfl⟩

theorem getr_any (s : ByteArray) (w : World) (hs : s.size ≤ 9223372036854775807) :
    Calls Try.prog 10 #[.string s] w fun e w' => e = .returned (.tuple #[.int .u64 (getV (bt s) s.size), .int .i64 (getN (bt s) s.size), .int .i64 (getE (bt s) s.size)]) ∧ w = w' :=
  getr_core s w hs _ rfl (by have := (getK_spec (bt s) s.size).1; omega)
end Go.Proofs.Ytebgcemglicjiaa
