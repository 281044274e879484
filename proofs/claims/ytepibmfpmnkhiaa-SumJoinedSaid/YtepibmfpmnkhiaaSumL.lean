/- (sum.matrix).of, linenref.product and linenref.Join, walked. -/
import Derived.Test.YtepibmfpmnkhiaaSumK
import Derived.Test.YtepibmfpmnkhiaaSumM
namespace Go.Proofs.Ytepibmfpmnkhiaa
open Go.RowKit

set_option maxRecDepth 20000 in
set_option maxHeartbeats 400000 in
theorem prod_any (a b : W32) (w : World) :
    Calls Try.prog 55 #[.int .u32 (v32 a), .int .u32 (v32 b)] w fun e w' => e = .returned (.int .u32 (v32 (prod a b))) ∧ w = w' := by
  go_enter Try.func55, Try.ntmps55
  go_wp2
  go_loop [5, 6] (fun v5 v6 => ∃ (k : Nat) (z : Int) (o : W32), k ≤ 32 ∧ z ≤ 31 - k ∧ 31 - k ≤ z ∧ v6 = .int .i64 z ∧ v5 = .int .u32 (v32 o) ∧ Hid (o = prodTo a b k)) (fun _ v6 => (intOf v6 + 1).toNat)
  case atStart => exact ⟨0, 31, 0#32, by omega, by omega, by omega, rfl, rfl, rfl⟩
  case round =>
    obtain ⟨k, z, o, hk, hz1, hz2, rfl, rfl, ho⟩ := hrel
    by_cases hz : 0 ≤ z
    · obtain ⟨i, rfl⟩ := Int.eq_ofNat_of_zero_le hz
      have hi : i = 31 - k := by omega
      have hi31 : i ≤ 31 := by omega
      have f1 := sh_walk b i
      have f2 := bit1_walk b i
      have f8 : min i 32 = i := by omega
      have hib := Lib.hid hi
      have hx := xor_v32 (crcTimes o) a
      have hbo := v32_bd (crcTimes o)
      have hbb := v32_bd (b >>> i)
      clear hi
      cases hb : b.getLsbD i
      · rw [hb] at f2
        have hb2 : b.getLsbD (31 - k) = false := by rw [← hib.out]; exact hb
        have G : Hid (crcTimes o = prodTo a b (k + 1)) := by simp only [Hid]; rw [prodTo_no hb2, ho.out]
        clear hb hb2
        generalize b >>> i = bs at *
        have f3 : bits .and .u32 (v32 bs) 1 = 0 := f2
        clear f2
        go_wp2_with (go_at_call 49; refine (times_any o _).mono ?_; rintro e w' ⟨rfl, rfl⟩)
        go_round
        case rel => exact ⟨k + 1, (i : Int) - 1, crcTimes o, by omega, by omega, by omega, by go_num, rfl, G⟩
        case measure => (simp [intOf]; try omega)
      · rw [hb] at f2
        have hb2 : b.getLsbD (31 - k) = true := by rw [← hib.out]; exact hb
        have G : Hid (crcTimes o ^^^ a = prodTo a b (k + 1)) := by simp only [Hid]; rw [prodTo_yes hb2, ho.out]
        clear hb hb2
        generalize b >>> i = bs at *
        have f3 : bits .and .u32 (v32 bs) 1 = 1 := f2
        clear f2
        go_wp2_with (go_at_call 49; refine (times_any o _).mono ?_; rintro e w' ⟨rfl, rfl⟩)
        go_round
        case rel => exact ⟨k + 1, (i : Int) - 1, crcTimes o ^^^ a, by omega, by omega, by omega, by go_num, rfl, G⟩
        case measure => (simp [intOf]; try omega)
    · have G : Hid (o = prod a b) := by simp only [Hid]; rw [ho.out, show k = 32 by omega]; rfl
      go_wp2
      go_ret
      exact ⟨by rw [G.out]; rfl, rfl⟩

set_option maxRecDepth 20000 in
set_option maxHeartbeats 400000 in
theorem joinr_any (a b : W32) (n : Int) (w : World) (hn : n ≤ 9223372036854775807) :
    Calls Try.prog 43 #[.int .u32 (v32 a), .int .u32 (v32 b), .int .i64 n] w fun e w' => e = .returned (.int .u32 (v32 (joinW a b n.toNat))) ∧ w = w' := by
  go_enter Try.func43, Try.ntmps43
  go_wp2_with (go_at_call 48; refine (turn_any _ _).mono ?_; rintro e w' ⟨rfl, rfl⟩)
  go_loop [2, 7, 8] (fun v2 v7 v8 => ∃ (z : Int) (x p : W32) (e : Nat), z ≤ 9223372036854775807 ∧ v2 = .int .i64 z ∧ v7 = .int .u32 (v32 x) ∧ v8 = .int .u32 (v32 p) ∧ Hid (p = it crcTimes e 1#32) ∧ Hid (it crcTimes (e * z.toNat) x = it crcTimes (8 * n.toNat) (turn a))) (fun v2 _ _ => (intOf v2).toNat)
  case atStart => exact ⟨n, turn a, 256#32, 8, hn, rfl, rfl, rfl, rp_start, rfl⟩
  case round =>
    obtain ⟨z, x, p, e, hz, rfl, rfl, rfl, hp, hr⟩ := hrel
    by_cases hz0 : 0 < z
    · obtain ⟨k, rfl⟩ := Int.eq_ofNat_of_zero_le (show 0 ≤ z by omega)
      rw [Int.toNat_natCast] at hr
      have t1 : (k : Int).tmod 2 = (k : Int) % 2 := Int.tmod_eq_emod_of_nonneg (by omega)
      have t2 : (k : Int).tdiv 2 = (k : Int) / 2 := Int.tdiv_eq_ediv_of_nonneg (by omega)
      by_cases hk : k % 2 = 1
      · have g1 : ((k : Int) % 2 == 1) = true := by rw [beq_iff_eq]; omega
        obtain ⟨G1a, G2a⟩ := rp_odd (x := x) hp.out hk
        have G1 := Lib.hid (G1a.symm.trans hr.out)
        have G2 := Lib.hid G2a
        clear G1a G2a
        have hk' := Lib.hid hk
        clear hk
        go_wp2_with (go_at_call 55; refine (prod_any _ _ _).mono ?_; rintro e w' ⟨rfl, rfl⟩)
        go_round
        case rel => exact ⟨(k : Int) / 2, prod x p, prod p p, e * 2, by omega, by go_num, rfl, rfl, G2, by simp only [Hid]; rw [show ((k : Int) / 2).toNat = k / 2 by omega]; exact G1.out⟩
        case measure => simp [intOf]; omega
      · have g1 : ((k : Int) % 2 == 1) = false := by rw [beq_eq_false_iff_ne]; omega
        obtain ⟨G1a, G2a⟩ := rp_even (x := x) hp.out (show k % 2 = 0 by omega)
        have G1 := Lib.hid (G1a.symm.trans hr.out)
        have G2 := Lib.hid G2a
        clear G1a G2a
        have hk' := Lib.hid hk
        clear hk
        go_wp2_with (go_at_call 55; refine (prod_any _ _ _).mono ?_; rintro e w' ⟨rfl, rfl⟩)
        go_round
        case rel => exact ⟨(k : Int) / 2, x, prod p p, e * 2, by omega, by go_num, rfl, rfl, G2, by simp only [Hid]; rw [show ((k : Int) / 2).toNat = k / 2 by omega]; exact G1.out⟩
        case measure => simp [intOf]; omega
    · have G : Hid (turn x = it crcStep (8 * n.toNat) a) := by
        have := hr.out
        rw [show z.toNat = 0 by omega, Nat.mul_zero] at this
        simp only [Hid]
        rw [← rp_end a n.toNat, ← this]; rfl
      have hx := xor_v32 (turn x) b
      go_wp2_with (go_at_call 48; refine (turn_any _ _).mono ?_; rintro e w' ⟨rfl, rfl⟩)
      go_ret
      exact ⟨by unfold joinW; rw [← G.out]; rfl, rfl⟩

set_option maxRecDepth 20000 in
set_option maxHeartbeats 400000 in
theorem of_any (m : Nat → W32) (c : W32) (w : World) :
    Calls Try.prog 53 #[.agg (matTo m 32), .int .u32 (v32 c)] w fun e w' => e = .returned (.int .u32 (v32 (ofTo m c 32))) ∧ Below w.heap.size w w' := by
  have hwb : Below w.heap.size w (w.alloc (.cells (matTo m 32) 71)) := (Below.refl _ _).alloc (Nat.le_refl _) _
  have hrow := heap_alloc_new w (.cells (matTo m 32) 71)
  obtain ⟨wa, hwa⟩ : ∃ wa, wa = w.alloc (.cells (matTo m 32) 71) := ⟨_, rfl⟩
  rw [← hwa] at hwb hrow
  have HR := Lib.hid hrow
  clear hrow
  go_enter Try.func53, Try.ntmps53
  go_wp2
  rw [← hwa]
  clear hwa
  go_loop [5, 7] (fun v5 v7 => ∃ (k : Nat) (o : W32), k ≤ 32 ∧ v7 = .int .i64 k ∧ v5 = .int .u32 (v32 o) ∧ Hid (o = ofTo m c k)) (fun _ v7 => 32 - (intOf v7).toNat)
  case atStart => exact ⟨0, 0#32, by omega, rfl, rfl, rfl⟩
  case round =>
    obtain ⟨i, o, hk, rfl, rfl, ho⟩ := hrel
    by_cases hlt : i < 32
    · have h32 : (i : Int) < 32 := by omega
      have f1 := sh_walk c i
      have f2 := bit1_walk c i
      have f8 : min i 32 = i := by omega
      have hx := xor_v32 o (m i)
      have hbb := v32_bd (c >>> i)
      have hc : wa.cell? ⟨w.heap.size, i, none⟩ = some (.int .u32 (v32 (m i))) := by
        rw [cell_of_row _ _ _ _ _ _ HR.out, matTo_get _ _ _ hlt, if_pos hlt]; rfl
      cases hb : c.getLsbD i
      · rw [hb] at f2
        have G : Hid (o = ofTo m c (i + 1)) := by simp only [Hid]; rw [ofTo_no hb, ho.out]
        clear hb
        generalize c >>> i = bs at *
        have f3 : bits .and .u32 (v32 bs) 1 = 0 := f2
        clear f2
        go_wp2
        go_round
        case rel => exact ⟨i + 1, o, by omega, by go_num, rfl, G⟩
        case measure => simp [intOf]; omega
      · rw [hb] at f2
        have G : Hid (o ^^^ m i = ofTo m c (i + 1)) := by simp only [Hid]; rw [ofTo_yes hb, ho.out]
        clear hb
        generalize c >>> i = bs at *
        have f3 : bits .and .u32 (v32 bs) 1 = 1 := f2
        clear f2
        go_wp2
        go_round
        case rel => exact ⟨i + 1, o ^^^ m i, by omega, by go_num, rfl, G⟩
        case measure => simp [intOf]; omega
    · have G : Hid (o = ofTo m c 32) := by simp only [Hid]; rw [ho.out, show i = 32 by omega]
      go_wp2
      go_ret
      exact ⟨by rw [G.out]; rfl, hwb⟩
end Go.Proofs.Ytepibmfpmnkhiaa
