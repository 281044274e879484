/- The law ImapTakes, walked: it returns true for every map. -/
import Derived.Test.YtjopdenabmojpaaTakeW
namespace Go.Proofs.Ytjopdenabmojpaa.lImapTakes
open Go.RowKit

set_option maxRecDepth 20000 in
set_option maxHeartbeats 1000000 in
theorem walk (a0_0 : Option Addr) (n0_0 c0_0 : Nat) (x0_0 : List PlaceD) (a0_1 : Option Addr) (n0_1 c0_1 : Nat) (x0_1 : List Int) (w : World) (r0_0 : RowsIn w w.heap.size a0_0 n0_0 c0_0 PlaceD.cells 2 x0_0) (_o0_0 : ∀ z ∈ x0_0, PlaceD.ok z) (_s0_0 : c0_0 * 16 ≤ 140737488351232) (r0_1 : RowsIn w w.heap.size a0_1 n0_1 c0_1 (fun z => [.int .i64 z]) 1 x0_1) (_o0_1 : ∀ z ∈ x0_1, (fun z => (Lit.int .i64 z).wf = true) z) (_s0_1 : c0_1 * 8 ≤ 140737488351232) :
    Calls Try.prog 8 #[.agg #[.slice a0_0 n0_0 c0_0, .slice a0_1 n0_1 c0_1]] w fun e w' => e = .returned (.bool true) ∧ Below w.heap.size w w' := by
  clear _o0_0 _s0_0 _o0_1 _s0_1
  have hbw : Below w.heap.size w (w.alloc (.cells #[.slice a0_0 n0_0 c0_0, .slice a0_1 n0_1 c0_1] 58)) := (Below.refl _ _).alloc (Nat.le_refl _) _
  have hws : w.heap.size < (w.alloc (.cells #[.slice a0_0 n0_0 c0_0, .slice a0_1 n0_1 c0_1] 58)).heap.size := by simp
  obtain ⟨hb0, hb1⟩ := box2 w (.slice a0_0 n0_0 c0_0) (.slice a0_1 n0_1 c0_1) 58
  obtain ⟨wa, hwa⟩ : ∃ wa, wa = w.alloc (.cells #[.slice a0_0 n0_0 c0_0, .slice a0_1 n0_1 c0_1] 58) := ⟨_, rfl⟩
  rw [← hwa] at hb0 hb1 hbw hws
  have H2 : Hid (∀ w1 : World, Below wa.heap.size wa w1 → Calls Try.prog 36 #[.agg #[.slice a0_0 n0_0 c0_0, .slice a0_1 n0_1 c0_1]] w1 fun e w' => e = .returned (.int .i64 (impE x0_0 x0_1)) ∧ Below wa.heap.size wa w') := fun w1 h => by
    have hf := hbw.trans (h.mono (Nat.le_of_lt hws))
    exact (imapr_any _ _ _ _ _ _ _ _ w1 ((r0_0.below hf).more (Nat.le_trans (Nat.le_of_lt hws) h.size)) ((r0_1.below hf).more (Nat.le_trans (Nat.le_of_lt hws) h.size))).mono fun _ _ ⟨he, hb⟩ => ⟨he, h.trans (hb.mono h.size)⟩
  by_cases ok : ImapOk x0_0 x0_1
  · obtain ⟨K, hK1, hK, ht, hf⟩ := take_to x0_0 x0_1 ok.1 ok.2.1
    have H1 := Lib.hid (take_any a0_0 n0_0 c0_0 x0_0 a0_1 n0_1 c0_1 x0_1 wa ((r0_0.below hbw).more (Nat.le_of_lt hws)) ((r0_1.below hbw).more (Nat.le_of_lt hws)) ok K hK1 hK ht hf)
    have hn := r0_0.len
    have hn' := r0_1.len
    rw [ok.1] at hn
    rw [ok.2.1] at hn'
    subst hn
    subst hn'
    rw [impE_ok ok] at H2
    have HT := Lib.hid ht
    have HF := Lib.hid hf
    clear ht hf ok
    obtain ⟨rn, hrn⟩ : ∃ rn : Int, rn = if K < 48 then (K : Int) else 0 := ⟨_, rfl⟩
    obtain ⟨re, hre⟩ : ∃ re : Int, re = if K < 48 then 0 else 10 := ⟨_, rfl⟩
    rw [← hrn, ← hre] at H1
    have HN := Lib.hid hrn
    have HE := Lib.hid hre
    clear hrn hre
    go_enter Try.func8, Try.ntmps8
    go_wp2_with (first
      | (go_at_call 35; rw [← hwa]; refine H1.out.mono ?_; rintro e w1 ⟨rfl, hbc⟩; have hc00 := (hbc.cell (p := ⟨w.heap.size, 0, none⟩) hws).trans hb0; have hc01 := (hbc.cell (p := ⟨w.heap.size, 1, none⟩) hws).trans hb1)
      | (go_at_call 36; refine (H2.out _ hbc).mono ?_; rintro e w2 ⟨rfl, hbd⟩))
    have hfin : Below w.heap.size w w2 := hbw.trans (hbd.mono (by omega))
    have hc0 := (hbd.cell (p := ⟨w.heap.size, 0, none⟩) hws).trans hb0
    have hc1 := (hbd.cell (p := ⟨w.heap.size, 1, none⟩) hws).trans hb1
    clear hwa H1 H2
    go_loop [23] (fun v23 => ∃ k : Nat, k ≤ K ∧ v23 = .int .i64 k) (fun v23 => 48 - (intOf v23).toNat)
    case atStart => exact ⟨0, by omega, rfl⟩
    case round =>
      obtain ⟨k, hk, rfl⟩ := hrel
      by_cases h0 : (0 : Int) < (k : Int)
      · by_cases hlt : k < K
        · obtain ⟨p, g, e1, e2, hg⟩ := HT.out k (by omega) hlt
          obtain ⟨b, o, rfl, hbB, hc⟩ := (r0_0.below hfin).at_ k _ e1
          obtain ⟨b', o', rfl, hbB', hc'⟩ := (r0_1.below hfin).one e2
          obtain ⟨pc, pn⟩ := p
          have hp0 := hc 0 _ rfl
          simp only [Nat.add_zero] at hp0
          clear hc e1 e2
          rcases hg with hg | ⟨hg, hg2⟩
          · simp only at hg
            have hg' : (pc == 0) = false := beq_eq_false_iff_ne.2 hg
            go_wp2
            go_round
            case rel => exact ⟨k + 1, by omega, by go_num⟩
            case measure => simp [intOf]; omega
          · simp only at hg
            subst hg
            have hg' : decide (g < 2147483647) = false := by simpa using hg2
            go_wp2
            go_round
            case rel => exact ⟨k + 1, by omega, by go_num⟩
            case measure => simp [intOf]; omega
        · obtain rfl : k = K := by omega
          by_cases hend : (k : Int) < 48
          · obtain ⟨p, g, e1, e2, hg, hg2⟩ := HF.out (by omega)
            obtain ⟨b, o, rfl, hbB, hc⟩ := (r0_0.below hfin).at_ k _ e1
            obtain ⟨b', o', rfl, hbB', hc'⟩ := (r0_1.below hfin).one e2
            obtain ⟨pc, pn⟩ := p
            have hp0 := hc 0 _ rfl
            simp only [Nat.add_zero] at hp0
            clear hc e1 e2
            simp only at hg
            subst hg
            have hrn : rn = (k : Int) := by rw [HN.out, if_pos (by omega)]
            have hre : re = 0 := by rw [HE.out, if_pos (by omega)]
            subst hrn
            subst hre
            go_wp2
            go_ret
            exact ⟨rfl, hfin⟩
          · have hrn : rn = 0 := by rw [HN.out, if_neg (by omega)]
            have hre : re = 10 := by rw [HE.out, if_neg (by omega)]
            subst hrn
            subst hre
            go_wp2
            go_ret
            exact ⟨rfl, hfin⟩
      · have h0' : decide ((0 : Int) < (k : Int)) = false := by simpa using h0
        have hk0 : (k : Int) < 48 := by omega
        go_wp2
        go_round
        case rel => exact ⟨k + 1, by omega, by go_num⟩
        case measure => simp [intOf]; omega
  · have H1 := Lib.hid (take_bad a0_0 n0_0 c0_0 x0_0 a0_1 n0_1 c0_1 x0_1 wa ((r0_0.below hbw).more (Nat.le_of_lt hws)) ((r0_1.below hbw).more (Nat.le_of_lt hws)) (impE_no ok))
    rw [impE_no ok] at H2
    clear ok r0_0 r0_1
    go_enter Try.func8, Try.ntmps8
    go_wp2_with (first
      | (go_at_call 35; rw [← hwa]; refine H1.out.mono ?_; rintro e w1 ⟨rfl, hbc⟩; have hc00 := (hbc.cell (p := ⟨w.heap.size, 0, none⟩) hws).trans hb0; have hc01 := (hbc.cell (p := ⟨w.heap.size, 1, none⟩) hws).trans hb1)
      | (go_at_call 36; refine (H2.out _ hbc).mono ?_; rintro e w2 ⟨rfl, hbd⟩))
    have hfin : Below w.heap.size w w2 := hbw.trans (hbd.mono (by omega))
    go_ret
    exact ⟨rfl, hfin⟩
end Go.Proofs.Ytjopdenabmojpaa.lImapTakes
