/- linenref.first, walked. -/
import Derived.Test.YtgidfmdbaimcnaaDoorGbQ
import Derived.Test.YtgidfmdbaimcnaaDoorOwn
import Derived.Test.YtgidfmdbaimcnaaDoorStep
import Derived.WalkSpells
import Derived.Deep.DeepCutAuto
import Derived.Deep.CutBlock
import Derived.Laws.BitsLemmas
import Derived.Lib.Hide
namespace Go.Proofs.YtgidfmdbaimcnaaDoor
open Go.RowKit Go.PlainAid

def vB : Nat → Int
  | 0 => 1
  | 1 => 32
  | 2 => 2048
  | 3 => 131072
  | _ => 8388608
theorem vB_step {i : Nat} {v r : Int} (hi : 1 ≤ i) (h3 : i ≤ 3) (h : v < vB i) (hr : r < 64) : v * 64 + r < vB (i + 1) := by
  rcases (show i = 1 ∨ i = 2 ∨ i = 3 by omega) with rfl | rfl | rfl <;> simp only [vB] at * <;> omega
theorem vB_top {i : Nat} {v : Int} (h4 : i ≤ 4) (h : v < vB i) : v < 8388608 := by
  rcases (show i = 0 ∨ i = 1 ∨ i = 2 ∨ i = 3 ∨ i = 4 by omega) with rfl | rfl | rfl | rfl | rfl <;> simp only [vB] at * <;> omega
theorem cv_none {s : ByteArray} {n f i : Nat} {v : Int} (h : i < n) (hb : bt s i < 128 ∨ 191 < bt s i) : cv s n (f + 1) i v = none := by simp [cv, h, hb]
theorem cv_more {s : ByteArray} {n f i : Nat} {v : Int} (h : i < n) (hb : ¬ (bt s i < 128 ∨ 191 < bt s i)) : cv s n (f + 1) i v = cv s n f (i + 1) (v * 64 + bt s i % 64) := by
  simp only [cv, h, hb, if_true, if_false]
theorem cv_end {s : ByteArray} {n f i : Nat} {v : Int} (h : ¬ i < n) : cv s n f i v = some v := by
  cases f <;> simp [cv, h]
def FsS (z : Int) (w : World) (a b c : Value) (wx : World) : Prop := a = .int .i64 ((lead z).1 : Nat) ∧ b = .int .i64 (lead z).2.1 ∧ c = .int .i64 (lead z).2.2 ∧ wx = w ∧ 128 ≤ z
theorem lead_b (b : Int) : 0 ≤ (lead b).2.2 ∧ (lead b).2.2 < 32 := by
  unfold lead
  repeat' split
  all_goals simp only
  all_goals omega
set_option maxRecDepth 100000 in
set_option maxHeartbeats 2000000 in
theorem first_any (s : ByteArray) (hs : s.size ≠ 0) (w : World) : Calls Tryd.prog 15 #[.string s] w fun e w' => e = .returned (.tuple #[.int .i64 (fst s).1, .int .i64 (fst s).2]) ∧ w' = w := by
  have b0 := bt_nonneg s 0
  have b1 := bt_le s 0
  have hz0 : (0 : Int) < (s.size : Int) := by omega
  have hz1 : 0 < s.size := by omega
  have hg : ∀ h : 0 < s.size, ((s[0]'h).toNat : Int) = bt s 0 := get_bt s 0
  have hw0 : wrap64 (bt s 0) = bt s 0 := by unfold wrap64; omega
  have hfst : fst s = if bt s 0 < 128 then (bt s 0, 1) else if (lead (bt s 0)).1 = 0 ∨ s.size < (lead (bt s 0)).1 then (0, 0) else match cv s (lead (bt s 0)).1 4 1 (lead (bt s 0)).2.2 with
    | none => (0, 0)
    | some v => if v < (lead (bt s 0)).2.1 ∨ 1114111 < v ∨ (55296 ≤ v ∧ v < 57344) then (0, 0) else (v, (lead (bt s 0)).1) := rfl
  obtain ⟨b, hbt⟩ : ∃ b, bt s 0 = b := ⟨_, rfl⟩
  rw [hbt] at b0 b1 hw0 hfst
  have hg' : ∀ h : 0 < s.size, ((s[0]'h).toNat : Int) = b := fun h => (hg h).trans hbt
  have HFS := Lib.hid hfst
  clear hs hfst hg hbt
  go_enter Tryd.func15, Tryd.ntmps15
  go_upto_block 0 with fail
  go_cut [5, 6, 7] (fun s5 s6 s7 wx => FsS b w s5 s6 s7 wx)
  case first =>
    have m1 : b.tmod 32 = b % 32 := Int.tmod_eq_emod_of_nonneg b0
    have m2 : b.tmod 16 = b % 16 := Int.tmod_eq_emod_of_nonneg b0
    have m3 : b.tmod 8 = b % 8 := Int.tmod_eq_emod_of_nonneg b0
    have HL : Hid (lead b = if 194 ≤ b ∧ b < 224 then (2, 128, b % 32) else if 224 ≤ b ∧ b < 240 then (3, 2048, b % 16) else if 240 ≤ b ∧ b < 245 then (4, 65536, b % 8) else (0, 0, 0)) := rfl
    have HF : Hid (b < 128 → fst s = (b, 1)) := fun h => by rw [HFS.out, if_pos h]
    by_cases h1 : b < 128
    · have HF1 := Lib.hid (HF.out h1)
      go_wp2
      go_ret2
      rw [HF1.out]
      exact ⟨rfl, rfl⟩
    · by_cases h2 : 194 ≤ b
      · by_cases h3 : b < 224
        · have HE : Hid (lead b = (2, 128, b % 32)) := by show _ = _; rw [HL.out, if_pos ⟨h2, h3⟩]
          go_wp2
          go_meet
          case rel => exact ⟨by rw [HE.out]; rfl, by rw [HE.out], by rw [HE.out], rfl, by omega⟩
        · by_cases h4 : b < 240
          · have h5 : 224 ≤ b := by omega
            have HE : Hid (lead b = (3, 2048, b % 16)) := by show _ = _; rw [HL.out, if_neg (by omega), if_pos ⟨h5, h4⟩]
            go_wp2
            go_meet
            case rel => exact ⟨by rw [HE.out]; rfl, by rw [HE.out], by rw [HE.out], rfl, by omega⟩
          · by_cases h6 : b < 245
            · have h5 : 224 ≤ b := by omega
              have h7 : 240 ≤ b := by omega
              have HE : Hid (lead b = (4, 65536, b % 8)) := by show _ = _; rw [HL.out, if_neg (by omega), if_neg (by omega), if_pos ⟨h7, h6⟩]
              go_wp2
              go_meet
              case rel => exact ⟨by rw [HE.out]; rfl, by rw [HE.out], by rw [HE.out], rfl, by omega⟩
            · have h5 : 224 ≤ b := by omega
              have h7 : 240 ≤ b := by omega
              have HE : Hid (lead b = (0, 0, 0)) := by show _ = _; rw [HL.out, if_neg (by omega), if_neg (by omega), if_neg (by omega)]
              go_wp2
              go_meet
              case rel => exact ⟨by rw [HE.out]; rfl, by rw [HE.out], by rw [HE.out], rfl, by omega⟩
      · have h5 : ¬ 224 ≤ b := by omega
        have h7 : ¬ 240 ≤ b := by omega
        have HE : Hid (lead b = (0, 0, 0)) := by show _ = _; rw [HL.out, if_neg (by omega), if_neg (by omega), if_neg (by omega)]
        go_wp2
        go_meet
        case rel => exact ⟨by rw [HE.out]; rfl, by rw [HE.out], by rw [HE.out], rfl, by omega⟩
  case rest =>
    obtain ⟨rfl, rfl, rfl, hwc, hb⟩ := hcut
    rw [hwc]
    clear hwc
    have hlc := lead_cases b
    have hlb := lead_b b
    have hnb : ¬ b < 128 := by omega
    rw [if_neg hnb] at HFS
    generalize lead b = ld at *
    obtain ⟨n, low, v0⟩ := ld
    simp only at hlc hlb HFS ⊢
    clear hg' hw0 hnb hb
    by_cases hn0 : n = 0
    · subst hn0
      have F : Hid (fst s = (0, 0)) := by show _ = _; rw [HFS.out, if_pos (.inl rfl)]
      clear HFS hlc
      go_wp2
      go_ret2
      rw [F.out]
      exact ⟨rfl, rfl⟩
    · have hne : ((n : Int) == 0) = false := beq_eq_false_iff_ne.2 (by omega)
      by_cases hsn : s.size < n
      · have hsi : (s.size : Int) < (n : Int) := by omega
        have F : Hid (fst s = (0, 0)) := by show _ = _; rw [HFS.out, if_pos (.inr hsn)]
        clear HFS hlc hn0
        go_wp2
        go_ret2
        rw [F.out]
        exact ⟨rfl, rfl⟩
      · have hsi : ¬ (s.size : Int) < (n : Int) := by omega
        rw [if_neg (by omega)] at HFS
        have HN4 : Hid (1 ≤ n ∧ n ≤ 4 ∧ n ≤ s.size) := by simp only [Hid]; omega
        have HV0 := Lib.hid hlb
        clear hlc hlb hn0
        go_wp2
        go_loopw [7, 8] (fun v7 v8 wr => ∃ (i : Nat) (v : Int), v7 = .int .i64 v ∧ v8 = .int .i64 i ∧ wr = w ∧ Hid (1 ≤ i ∧ i ≤ n ∧ 0 ≤ v ∧ v < vB i ∧ cv s n (5 - i) i v = cv s n 4 1 v0)) (fun _ v8 _ => n - (intOf v8).toNat)
        case atStart => exact ⟨1, v0, rfl, rfl, rfl, Nat.le_refl _, HN4.out.1, HV0.out.1, HV0.out.2, rfl⟩
        case round =>
          obtain ⟨i, v, rfl, rfl, rfl, HI⟩ := hrel
          obtain ⟨q1, q2, q3, q4, q5⟩ := HI.out
          have q6 := vB_top (by have := HN4.out; omega) q4
          by_cases hlt : i < n
          · obtain ⟨k1, k2, k3⟩ := HN4.out
            have hlt' : (i : Int) < (n : Int) := by omega
            have his : i < s.size := by omega
            have hgi : ∀ h : i < s.size, ((s[i]'h).toNat : Int) = bt s i := get_bt s i
            have his' : (i : Int) < (s.size : Int) := by omega
            have y0 := bt_nonneg s i
            have y1 := bt_le s i
            obtain ⟨f, hf⟩ : ∃ f, 5 - i = f + 1 := ⟨4 - i, by omega⟩
            have hf2 : 5 - (i + 1) = f := by omega
            rw [hf] at q5
            have HB : Hid (bt s i < 128 ∨ 191 < bt s i → fst s = (0, 0)) := fun h => by rw [HFS.out, ← q5, cv_none hlt h]
            have HM : Hid (¬ (bt s i < 128 ∨ 191 < bt s i) → cv s n (5 - (i + 1)) (i + 1) (v * 64 + bt s i % 64) = cv s n 4 1 v0) := fun h => by rw [hf2, ← q5, cv_more hlt h]
            have hi4 : (i : Int) ≤ 4 := by omega
            have HV : Hid (v * 64 + bt s i % 64 < vB (i + 1)) := vB_step q1 (by omega) q4 (by omega)
            generalize bt s i = y at *
            clear q5 hf hf2 k1 k2 k3 q4
            by_cases z1 : y < 128
            · have F := Lib.hid (HB.out (.inl z1))
              go_wp2
              go_ret2
              rw [F.out]
              exact ⟨rfl, rfl⟩
            · by_cases z2 : 191 < y
              · have F := Lib.hid (HB.out (.inr z2))
                go_wp2
                go_ret2
                rw [F.out]
                exact ⟨rfl, rfl⟩
              · have G := Lib.hid (HM.out (by omega))
                have HPP : Hid (1 ≤ i + 1 ∧ i + 1 ≤ n ∧ 0 ≤ v * 64 + y % 64) := ⟨by omega, hlt, by omega⟩
                have hw6 : wrap64 ((i : Int) + 1) = (i : Int) + 1 := IntWalk.wrap64_in _ ⟨by omega, by omega⟩
                have hw1 : wrap64 (v * 64) = v * 64 := IntWalk.wrap64_in _ ⟨by omega, by omega⟩
                have hw2 : wrap64 y = y := IntWalk.wrap64_in _ ⟨by omega, by omega⟩
                have hw3 : y.tmod 64 = y % 64 := Int.tmod_eq_emod_of_nonneg y0
                have hym : 0 ≤ y % 64 ∧ y % 64 < 64 := ⟨by omega, by omega⟩
                obtain ⟨ym, hym'⟩ : ∃ ym, y % 64 = ym := ⟨_, rfl⟩
                have hw4 : wrap64 (y % 64) = y % 64 := by rw [hym'] at hym ⊢; exact IntWalk.wrap64_in _ ⟨by omega, by omega⟩
                have hw5 : wrap64 (v * 64 + y % 64) = v * 64 + y % 64 := by rw [hym'] at hym ⊢; exact IntWalk.wrap64_in _ ⟨by omega, by omega⟩
                clear hym hym'
                have HLT := Lib.hid hlt
                clear q1 q2 hlt
                go_wp2
                go_roundw
                case rel => exact ⟨i + 1, _, rfl, by go_num, trivial, HPP.out.1, HPP.out.2.1, HPP.out.2.2, HV.out, G.out⟩
                case measure => (have := HLT.out; simp [intOf]; try omega)
          · have hie : i = n := by omega
            have hlt' : ¬ (i : Int) < (n : Int) := by omega
            have hF : fst s = if v < low ∨ 1114111 < v ∨ (55296 ≤ v ∧ v < 57344) then (0, 0) else (v, n) := by
              rw [HFS.out, ← q5, cv_end hlt]
            have HF := Lib.hid hF
            clear hF HFS q5 q4 hie hlt
            by_cases a1 : v < low
            · go_wp2
              go_ret2
              rw [HF.out, if_pos (.inl a1)]
              exact ⟨rfl, rfl⟩
            · by_cases a2 : 1114111 < v
              · go_wp2
                go_ret2
                rw [HF.out, if_pos (.inr (.inl a2))]
                exact ⟨rfl, rfl⟩
              · by_cases a3 : 55296 ≤ v
                · by_cases a4 : v < 57344
                  · go_wp2
                    go_ret2
                    rw [HF.out, if_pos (.inr (.inr ⟨a3, a4⟩))]
                    exact ⟨rfl, rfl⟩
                  · go_wp2
                    go_ret2
                    rw [HF.out, if_neg (by omega)]
                    exact ⟨rfl, rfl⟩
                · go_wp2
                  go_ret2
                  rw [HF.out, if_neg (by omega)]
                  exact ⟨rfl, rfl⟩
end Go.Proofs.YtgidfmdbaimcnaaDoor
