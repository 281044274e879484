/- sum.Join, walked. -/
import Derived.Test.YtepibmfpmnkhiaaSumN
import Derived.Laws.Bits128
namespace Go.Proofs.Ytepibmfpmnkhiaa
open Go.RowKit

theorem and1_i64 (k : Int) (h0 : 0 ≤ k) (h1 : k ≤ 9223372036854775807) : bits .and .i64 k 1 = k % 2 := by
  have h127 : (BitVec.ofInt 64 1).toNat = 2 ^ 1 - 1 := by decide
  have key : (BitVec.ofInt 64 k &&& BitVec.ofInt 64 1).toNat = (k % ((2 ^ 64 : Nat) : Int)).toNat % 2 ^ 1 := by
    rw [BitVec.toNat_and, BitVec.toNat_ofInt, h127, Nat.and_two_pow_sub_one_eq_mod]
  show IntKind.i64.wrap ((BitVec.ofInt 64 k &&& BitVec.ofInt 64 1).toNat : Nat) = k % 2
  rw [key, IntKind.wrap_i64]
  omega
theorem of_f {g : W32 → W32} (h : Lin g) (x : W32) : ofTo (fun i => g (1#32 <<< i)) x 32 = g x := of_lin h x
theorem step8_lin : Lin (crcSteps 8) := fun a b => steps_xor 8 a b

set_option maxRecDepth 20000 in
set_option maxHeartbeats 1000000 in
theorem join_any (a b : W32) (n : Int) (w : World) (hn : n ≤ 9223372036854775807) :
    Calls Try.prog 42 #[.int .u32 (v32 a), .int .u32 (v32 b), .int .i64 n] w fun e w' => e = .returned (.int .u32 (v32 (joinW a b n.toNat))) ∧ Below w.heap.size w w' := by
  obtain ⟨f, hf⟩ : ∃ f : Nat → W32, f = fun i => crcSteps 8 (1#32 <<< i) := ⟨_, rfl⟩
  have hz := zero_mat f
  have HF := Lib.hid hf
  clear hf
  go_enter Try.func42, Try.ntmps42
  go_wp2
  clear hz
  go_loopw [11] (fun v11 wr => ∃ k : Nat, k ≤ 32 ∧ v11 = .int .i64 k ∧ Hid (wr.heap[w.heap.size]? = some (.cells (matTo f k) 71 (0, 0))) ∧ Below w.heap.size w wr) (fun v11 _ => 32 - (intOf v11).toNat)
  case atStart => exact ⟨0, by omega, rfl, heap_alloc_new _ _, (Below.refl _ _).alloc (Nat.le_refl _) _⟩
  case round =>
    obtain ⟨k, hk, rfl, hr1, hb⟩ := hrel
    by_cases hlt : k < 32
    · have h32 : (k : Int) < 32 := by omega
      have f8 : min k 32 = k := by omega
      have s1 := shl_v32 1#32 k
      have e1 : v32 1#32 = 1 := rfl
      rw [e1, Int.one_mul, Int.natCast_pow] at s1
      have s1 : (2 : Int) ^ k % 4294967296 = v32 (1#32 <<< k) := s1
      have s2 : IntKind.u32.wrap ((2 : Int) ^ k) = v32 (1#32 <<< k) := by rw [IntKind.wrap_u32]; exact s1
      have s3 : IntKind.u32.wrap (1 * (2 : Int) ^ k) = v32 (1#32 <<< k) := by rw [Int.one_mul]; exact s2
      obtain ⟨wo, rfl⟩ : ∃ wo : World, wo = wr := ⟨_, rfl⟩
      go_wp2
      go_loop [9, 16] (fun v9 v16 => ∃ (j : Nat) (c : W32), j ≤ 8 ∧ v16 = .int .i64 j ∧ v9 = .int .u32 (v32 c) ∧ Hid (c = crcSteps j (1#32 <<< k))) (fun _ v16 => 8 - (intOf v16).toNat)
      case atStart => exact ⟨0, 1#32 <<< k, by omega, rfl, rfl, rfl⟩
      case round =>
        obtain ⟨j, c, hj, rfl, rfl, hc⟩ := hrel
        by_cases hj8 : (j : Int) < 8
        · go_wp2_with (go_at_call 52; refine (step_any _ _).mono ?_; rintro e w' ⟨rfl, rfl⟩)
          go_round
          case rel => exact ⟨j + 1, _, by omega, by go_num, rfl, by simp only [Hid]; rw [hc.out]; rfl⟩
          case measure => (simp [intOf]; try omega)
        · have hcf : c = f k := by rw [HF.out, hc.out, show j = 8 by omega]
          have hfz := row_cold hr1.out k
          have hcl := row_cell hr1.out k
          rw [matTo_get _ _ _ hlt, if_neg (Nat.lt_irrefl _)] at hcl
          have HS : Hid ((wo.setCell ⟨w.heap.size, k, none⟩ (.int .u32 (v32 c))).heap[w.heap.size]? = some (.cells (matTo f (k + 1)) 71 (0, 0))) := by
            have := row_store (j := k) (v := .int .u32 (v32 c)) hr1.out
            rw [hcf, show (Value.int .u32 (v32 (f k))) = matV f k from rfl, matTo_set _ _ hlt] at this
            rw [hcf]
            exact this
          clear hcf
          go_wp2
          go_roundw
          case rel => first | exact ⟨k + 1, by omega, by go_num, HS, hb.setCell (Nat.le_refl _) _⟩ | exact ⟨k + 1, by omega, by go_num, hb.setCell (Nat.le_refl _) _⟩
          case measure => (simp [intOf]; try omega)
    · obtain rfl : k = 32 := by omega
      have HF0 : Hid (wr.heap[w.heap.size]? = some (.cells (matTo (fun i => crcSteps 8 (1#32 <<< i)) 32) 71 (0, 0))) := by simp only [Hid]; rw [← HF.out]; exact hr1.out
      rcases (show n ≤ 0 ∨ 0 < n by omega) with hn0 | hn0
      · go_wp2
        go_loopw [0, 10] (fun v0 v10 wr => ∃ (z : Int) (x : W32) (g : W32 → W32), z ≤ 9223372036854775807 ∧ v10 = .int .i64 z ∧ v0 = .int .u32 (v32 x) ∧ Hid (Lin g) ∧ Hid (wr.heap[w.heap.size]? = some (.cells (matTo (fun i => g (1#32 <<< i)) 32) 71 (0, 0))) ∧ Hid (it g z.toNat x = it (crcSteps 8) n.toNat a) ∧ Below w.heap.size w wr) (fun _ v10 _ => (intOf v10).toNat)
        case atStart => exact ⟨0, a, crcSteps 8, by omega, rfl, rfl, step8_lin, HF0, by simp only [Hid]; rw [show n.toNat = 0 by omega]; rfl, hb⟩
        case round =>
          obtain ⟨z, x, g, hz, rfl, rfl, hg, hr, hi, hb⟩ := hrel
          by_cases hz0 : 0 < z
          · obtain ⟨k, rfl⟩ := Int.eq_ofNat_of_zero_le (show 0 ≤ z by omega)
            rw [Int.toNat_natCast] at hi
            have f1 := and1_i64 (k : Int) (by omega) hz
            obtain ⟨M, hM⟩ : ∃ M : Nat → W32, M = fun i => g (1#32 <<< i) := ⟨_, rfl⟩
            obtain ⟨M2, hM2⟩ : ∃ M2 : Nat → W32, M2 = fun i => g (g (1#32 <<< i)) := ⟨_, rfl⟩
            have hr' := hr.out
            rw [← hM] at hr'
            have HM := Lib.hid hM
            have HM2 := Lib.hid hM2
            have HR := Lib.hid hr'
            clear hM hM2 hr' hr
            have hu := Lib.hid under_mat
            have him := Lib.hid (info_mat M 32)
            have HT : Hid (∀ W, Calls Try.prog 54 #[.agg (matTo M 32)] W fun e w' => e = .returned (.agg (matTo M2 32)) ∧ Below W.heap.size W w') := fun W => by
              have h := twice_any M W
              have e : (fun i => ofTo M (M i) 32) = M2 := by
                rw [HM2.out]; funext i; rw [HM.out]; exact of_f hg.out (g (1#32 <<< i))
              rw [e] at h; exact h
            have him2 := Lib.hid (info_mat M2 32)
            have hone := Lib.hid (mat_one M2 32)
            have hsize : Hid ((matTo M 32).size = (matTo M2 32).size) := by simp only [Hid, matTo_size]
            have hg2 : Hid (Lin (fun y => g (g y))) := hg.out.comp hg.out
            by_cases hk : k % 2 = 1
            · have g1 : ((k : Int) % 2 == 1) = true := by rw [beq_iff_eq]; omega
              have G1 : Hid (it (fun y => g (g y)) (k / 2) (g x) = it (crcSteps 8) n.toNat a) := (lp_odd hk).symm.trans hi.out
              have HO : Hid (∀ W, Calls Try.prog 53 #[.agg (matTo M 32), .int .u32 (v32 x)] W fun e w' => e = .returned (.int .u32 (v32 (g x))) ∧ Below W.heap.size W w') := fun W => by
                have h := of_any M x W
                have e : ofTo M x 32 = g x := by rw [HM.out]; exact of_f hg.out x
                rw [e] at h; exact h
              have hk' := Lib.hid hk
              clear hk
              go_wp2_with (first
                | (refine wpList_load_row rfl _ _ rfl w.heap.size rfl _ (matTo M 32) (0, 0) _ hrB.out hu.out rfl him.out ?_)
                | (refine wpList_load_row rfl _ _ rfl w.heap.size rfl _ (matTo M 32) (0, 0) _ HR.out hu.out rfl him.out ?_)
                | (go_at_call 53; refine (HO.out _).mono ?_; rintro e w2 ⟨rfl, hb2⟩; have hrB := Lib.hid (row_below HR.out (row_lt HR.out) hb2))
                | (go_at_call 54; refine (HT.out _).mono ?_; rintro e w3 ⟨rfl, hb3⟩; have hrC := Lib.hid (row_below hrB.out (row_lt hrB.out) hb3))
                | (refine wpList_store_rowTo rfl _ _ _ rfl rfl w.heap.size (matTo M2 32) rfl rfl _ (matTo M 32) hrC.out him2.out hsize.out hone.out ?_))
              have hfin : Below w.heap.size w (w3.setRow w.heap.size (matTo M2 32)) := below_setRow ((hb.trans (hb2.mono hb.size)).trans (hb3.mono (Nat.le_trans hb.size hb2.size))) (Nat.le_refl _) _
              have hrow3 : Hid ((w3.setRow w.heap.size (matTo M2 32)).heap[w.heap.size]? = some (.cells (matTo (fun i => g (g (1#32 <<< i))) 32) 71 (0, 0))) := by
                simp only [Hid]; rw [← HM2.out]; exact row_set hrC.out
              clear HT HR hu him him2 hone hsize hrC
              generalize w3.setRow w.heap.size (matTo M2 32) = w4 at *
              try go_wp2
              go_roundw
              case rel => refine ⟨_, _, _, _, _, _, _, _, _, _, _, _, _, _, ?_, rfl⟩; exact ⟨(k : Int) / 2, g x, fun y => g (g y), by omega, by go_num, rfl, hg2, hrow3, by simp only [Hid]; rw [show ((k : Int) / 2).toNat = k / 2 by omega]; exact G1.out, hfin⟩
              case measure => (simp [intOf]; try omega)
            · have g1 : ((k : Int) % 2 == 1) = false := by rw [beq_eq_false_iff_ne]; omega
              have G1 : Hid (it (fun y => g (g y)) (k / 2) x = it (crcSteps 8) n.toNat a) := (lp_even (show k % 2 = 0 by omega)).symm.trans hi.out
              have hk' := Lib.hid hk
              clear hk
              go_wp2_with (first
                | (refine wpList_load_row rfl _ _ rfl w.heap.size rfl _ (matTo M 32) (0, 0) _ HR.out hu.out rfl him.out ?_)
                | (go_at_call 54; refine (HT.out _).mono ?_; rintro e w3 ⟨rfl, hb3⟩; have hrC := Lib.hid (row_below HR.out (row_lt HR.out) hb3))
                | (refine wpList_store_rowTo rfl _ _ _ rfl rfl w.heap.size (matTo M2 32) rfl rfl _ (matTo M 32) hrC.out him2.out hsize.out hone.out ?_))
              have hfin : Below w.heap.size w (w3.setRow w.heap.size (matTo M2 32)) := below_setRow (hb.trans (hb3.mono hb.size)) (Nat.le_refl _) _
              have hrow3 : Hid ((w3.setRow w.heap.size (matTo M2 32)).heap[w.heap.size]? = some (.cells (matTo (fun i => g (g (1#32 <<< i))) 32) 71 (0, 0))) := by
                simp only [Hid]; rw [← HM2.out]; exact row_set hrC.out
              clear HT HR hu him him2 hone hsize hrC
              generalize w3.setRow w.heap.size (matTo M2 32) = w4 at *
              try go_wp2
              go_roundw
              case rel => refine ⟨_, _, _, _, _, _, _, _, _, _, _, _, _, _, ?_, rfl⟩; exact ⟨(k : Int) / 2, x, fun y => g (g y), by omega, by go_num, rfl, hg2, hrow3, by simp only [Hid]; rw [show ((k : Int) / 2).toNat = k / 2 by omega]; exact G1.out, hfin⟩
              case measure => (simp [intOf]; try omega)
          · have G : Hid (x = it crcStep (8 * n.toNat) a) := by
              have := hi.out
              rw [show z.toNat = 0 by omega] at this
              simp only [Hid]
              rw [← lp_start, ← this]; rfl
            have hx := xor_v32 x b
            go_wp2
            go_ret
            exact ⟨by unfold joinW; rw [← G.out]; rfl, hb⟩
      · go_wp2
        go_loopw [0, 10] (fun v0 v10 wr => ∃ (z : Int) (x : W32) (g : W32 → W32), z ≤ 9223372036854775807 ∧ v10 = .int .i64 z ∧ v0 = .int .u32 (v32 x) ∧ Hid (Lin g) ∧ Hid (wr.heap[w.heap.size]? = some (.cells (matTo (fun i => g (1#32 <<< i)) 32) 71 (0, 0))) ∧ Hid (it g z.toNat x = it (crcSteps 8) n.toNat a) ∧ Below w.heap.size w wr) (fun _ v10 _ => (intOf v10).toNat)
        case atStart => exact ⟨n, a, crcSteps 8, hn, rfl, rfl, step8_lin, HF0, rfl, hb⟩
        case round =>
          obtain ⟨z, x, g, hz, rfl, rfl, hg, hr, hi, hb⟩ := hrel
          by_cases hz0 : 0 < z
          · obtain ⟨k, rfl⟩ := Int.eq_ofNat_of_zero_le (show 0 ≤ z by omega)
            rw [Int.toNat_natCast] at hi
            have f1 := and1_i64 (k : Int) (by omega) hz
            obtain ⟨M, hM⟩ : ∃ M : Nat → W32, M = fun i => g (1#32 <<< i) := ⟨_, rfl⟩
            obtain ⟨M2, hM2⟩ : ∃ M2 : Nat → W32, M2 = fun i => g (g (1#32 <<< i)) := ⟨_, rfl⟩
            have hr' := hr.out
            rw [← hM] at hr'
            have HM := Lib.hid hM
            have HM2 := Lib.hid hM2
            have HR := Lib.hid hr'
            clear hM hM2 hr' hr
            have hu := Lib.hid under_mat
            have him := Lib.hid (info_mat M 32)
            have HT : Hid (∀ W, Calls Try.prog 54 #[.agg (matTo M 32)] W fun e w' => e = .returned (.agg (matTo M2 32)) ∧ Below W.heap.size W w') := fun W => by
              have h := twice_any M W
              have e : (fun i => ofTo M (M i) 32) = M2 := by
                rw [HM2.out]; funext i; rw [HM.out]; exact of_f hg.out (g (1#32 <<< i))
              rw [e] at h; exact h
            have him2 := Lib.hid (info_mat M2 32)
            have hone := Lib.hid (mat_one M2 32)
            have hsize : Hid ((matTo M 32).size = (matTo M2 32).size) := by simp only [Hid, matTo_size]
            have hg2 : Hid (Lin (fun y => g (g y))) := hg.out.comp hg.out
            by_cases hk : k % 2 = 1
            · have g1 : ((k : Int) % 2 == 1) = true := by rw [beq_iff_eq]; omega
              have G1 : Hid (it (fun y => g (g y)) (k / 2) (g x) = it (crcSteps 8) n.toNat a) := (lp_odd hk).symm.trans hi.out
              have HO : Hid (∀ W, Calls Try.prog 53 #[.agg (matTo M 32), .int .u32 (v32 x)] W fun e w' => e = .returned (.int .u32 (v32 (g x))) ∧ Below W.heap.size W w') := fun W => by
                have h := of_any M x W
                have e : ofTo M x 32 = g x := by rw [HM.out]; exact of_f hg.out x
                rw [e] at h; exact h
              have hk' := Lib.hid hk
              clear hk
              go_wp2_with (first
                | (refine wpList_load_row rfl _ _ rfl w.heap.size rfl _ (matTo M 32) (0, 0) _ hrB.out hu.out rfl him.out ?_)
                | (refine wpList_load_row rfl _ _ rfl w.heap.size rfl _ (matTo M 32) (0, 0) _ HR.out hu.out rfl him.out ?_)
                | (go_at_call 53; refine (HO.out _).mono ?_; rintro e w2 ⟨rfl, hb2⟩; have hrB := Lib.hid (row_below HR.out (row_lt HR.out) hb2))
                | (go_at_call 54; refine (HT.out _).mono ?_; rintro e w3 ⟨rfl, hb3⟩; have hrC := Lib.hid (row_below hrB.out (row_lt hrB.out) hb3))
                | (refine wpList_store_rowTo rfl _ _ _ rfl rfl w.heap.size (matTo M2 32) rfl rfl _ (matTo M 32) hrC.out him2.out hsize.out hone.out ?_))
              have hfin : Below w.heap.size w (w3.setRow w.heap.size (matTo M2 32)) := below_setRow ((hb.trans (hb2.mono hb.size)).trans (hb3.mono (Nat.le_trans hb.size hb2.size))) (Nat.le_refl _) _
              have hrow3 : Hid ((w3.setRow w.heap.size (matTo M2 32)).heap[w.heap.size]? = some (.cells (matTo (fun i => g (g (1#32 <<< i))) 32) 71 (0, 0))) := by
                simp only [Hid]; rw [← HM2.out]; exact row_set hrC.out
              clear HT HR hu him him2 hone hsize hrC
              generalize w3.setRow w.heap.size (matTo M2 32) = w4 at *
              try go_wp2
              go_roundw
              case rel => refine ⟨_, _, _, _, _, _, _, _, _, _, _, _, _, _, ?_, rfl⟩; exact ⟨(k : Int) / 2, g x, fun y => g (g y), by omega, by go_num, rfl, hg2, hrow3, by simp only [Hid]; rw [show ((k : Int) / 2).toNat = k / 2 by omega]; exact G1.out, hfin⟩
              case measure => (simp [intOf]; try omega)
            · have g1 : ((k : Int) % 2 == 1) = false := by rw [beq_eq_false_iff_ne]; omega
              have G1 : Hid (it (fun y => g (g y)) (k / 2) x = it (crcSteps 8) n.toNat a) := (lp_even (show k % 2 = 0 by omega)).symm.trans hi.out
              have hk' := Lib.hid hk
              clear hk
              go_wp2_with (first
                | (refine wpList_load_row rfl _ _ rfl w.heap.size rfl _ (matTo M 32) (0, 0) _ HR.out hu.out rfl him.out ?_)
                | (go_at_call 54; refine (HT.out _).mono ?_; rintro e w3 ⟨rfl, hb3⟩; have hrC := Lib.hid (row_below HR.out (row_lt HR.out) hb3))
                | (refine wpList_store_rowTo rfl _ _ _ rfl rfl w.heap.size (matTo M2 32) rfl rfl _ (matTo M 32) hrC.out him2.out hsize.out hone.out ?_))
              have hfin : Below w.heap.size w (w3.setRow w.heap.size (matTo M2 32)) := below_setRow (hb.trans (hb3.mono hb.size)) (Nat.le_refl _) _
              have hrow3 : Hid ((w3.setRow w.heap.size (matTo M2 32)).heap[w.heap.size]? = some (.cells (matTo (fun i => g (g (1#32 <<< i))) 32) 71 (0, 0))) := by
                simp only [Hid]; rw [← HM2.out]; exact row_set hrC.out
              clear HT HR hu him him2 hone hsize hrC
              generalize w3.setRow w.heap.size (matTo M2 32) = w4 at *
              try go_wp2
              go_roundw
              case rel => refine ⟨_, _, _, _, _, _, _, _, _, _, _, _, _, _, ?_, rfl⟩; exact ⟨(k : Int) / 2, x, fun y => g (g y), by omega, by go_num, rfl, hg2, hrow3, by simp only [Hid]; rw [show ((k : Int) / 2).toNat = k / 2 by omega]; exact G1.out, hfin⟩
              case measure => (simp [intOf]; try omega)
          · have G : Hid (x = it crcStep (8 * n.toNat) a) := by
              have := hi.out
              rw [show z.toNat = 0 by omega] at this
              simp only [Hid]
              rw [← lp_start, ← this]; rfl
            have hx := xor_v32 x b
            go_wp2
            go_ret
            exact ⟨by unfold joinW; rw [← G.out]; rfl, hb⟩
end Go.Proofs.Ytepibmfpmnkhiaa
