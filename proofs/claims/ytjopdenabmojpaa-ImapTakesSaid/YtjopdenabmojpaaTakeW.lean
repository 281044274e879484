/- imap.Take, walked. -/
import Derived.Test.YtjopdenabmojpaaImapW
namespace Go.Proofs.Ytjopdenabmojpaa
open Go.RowKit

set_option maxRecDepth 20000 in
set_option maxHeartbeats 1000000 in
theorem take_bad (A : Option Addr) (n c : Nat) (xs : List PlaceD) (A' : Option Addr) (n' c' : Nat) (gs : List Int) (w : World) (r : RowsIn w w.heap.size A n c PlaceD.cells 2 xs) (r' : RowsIn w w.heap.size A' n' c' (fun z => [.int .i64 z]) 1 gs) (hE : impE xs gs = 4) :
    Calls Try.prog 35 #[.agg #[.slice A n c, .slice A' n' c']] w fun e w' => e = .returned (.tuple #[.int .i64 0, .int .i64 4]) ∧ Below w.heap.size w w' := by
  have hbw : Below w.heap.size w (w.alloc (.cells #[.slice A n c, .slice A' n' c'] 58)) := (Below.refl _ _).alloc (Nat.le_refl _) _
  have hws : w.heap.size ≤ (w.alloc (.cells #[.slice A n c, .slice A' n' c'] 58)).heap.size := by simp
  have H := Lib.hid (imapc_any A n c xs A' n' c' gs _ ((r.below hbw).more hws) ((r'.below hbw).more hws))
  rw [hE] at H
  clear r r' hE
  go_enter Try.func35, Try.ntmps35
  go_wp2_with (go_at_call 39; refine H.out.mono ?_; rintro e w1 ⟨rfl, hb1⟩)
  go_ret2
  exact ⟨rfl, hbw.trans (hb1.mono hws)⟩

set_option maxRecDepth 20000 in
set_option maxHeartbeats 1000000 in
theorem take_any (A : Option Addr) (n c : Nat) (xs : List PlaceD) (A' : Option Addr) (n' c' : Nat) (gs : List Int) (w : World) (r : RowsIn w w.heap.size A n c PlaceD.cells 2 xs) (r' : RowsIn w w.heap.size A' n' c' (fun z => [.int .i64 z]) 1 gs) (ok : ImapOk xs gs)
    (K : Nat) (hK1 : 1 ≤ K) (hK : K ≤ 48) (ht : ∀ i, 1 ≤ i → i < K → Taken xs gs i) (hf : K < 48 → Free xs gs K) :
    Calls Try.prog 35 #[.agg #[.slice A n c, .slice A' n' c']] w fun e w' => e = .returned (.tuple #[.int .i64 (if K < 48 then K else 0), .int .i64 (if K < 48 then 0 else 10)]) ∧ Below w.heap.size w w' := by
  have hlen := r.len
  have hlen' := r'.len
  rw [ok.1] at hlen
  rw [ok.2.1] at hlen'
  subst hlen
  subst hlen'
  have hbw : Below w.heap.size w (w.alloc (.cells #[.slice A 48 c, .slice A' 48 c'] 58)) := (Below.refl _ _).alloc (Nat.le_refl _) _
  have hws : w.heap.size < (w.alloc (.cells #[.slice A 48 c, .slice A' 48 c'] 58)).heap.size := by simp
  have H := Lib.hid (imapc_any A 48 c xs A' 48 c' gs _ ((r.below hbw).more (Nat.le_of_lt hws)) ((r'.below hbw).more (Nat.le_of_lt hws)))
  rw [impE_ok ok] at H
  have HT := Lib.hid ht
  have HF := Lib.hid hf
  obtain ⟨hb0, hb1⟩ := box2 w (.slice A 48 c) (.slice A' 48 c') 58
  obtain ⟨wa, hwa⟩ : ∃ wa, wa = w.alloc (.cells #[.slice A 48 c, .slice A' 48 c'] 58) := ⟨_, rfl⟩
  rw [← hwa] at hb0 hb1 hbw hws H
  clear ht hf ok
  go_enter Try.func35, Try.ntmps35
  go_wp2_with (go_at_call 39; rw [← hwa]; refine H.out.mono ?_; rintro e w1 ⟨rfl, hbc⟩)
  have hfin : Below w.heap.size w w1 := hbw.trans (hbc.mono (by omega))
  have hsz := hbc.size
  have hc0 : w1.cell? ⟨w.heap.size, 0, none⟩ = some (.slice A 48 c) := (hbc.cell (p := ⟨w.heap.size, 0, none⟩) hws).trans hb0
  have hc1 : w1.cell? ⟨w.heap.size, 1, none⟩ = some (.slice A' 48 c') := (hbc.cell (p := ⟨w.heap.size, 1, none⟩) hws).trans hb1
  clear hwa H
  go_loop [5] (fun v5 => ∃ k : Nat, 1 ≤ k ∧ k ≤ K ∧ v5 = .int .i64 k) (fun v5 => 48 - (intOf v5).toNat)
  case atStart => exact ⟨1, by omega, hK1, rfl⟩
  case round =>
    obtain ⟨k, hk1, hk, rfl⟩ := hrel
    by_cases hlt : k < K
    · obtain ⟨p, g, e1, e2, hg⟩ := HT.out k hk1 hlt
      obtain ⟨b, o, rfl, hbB, hc⟩ := (r.below hfin).at_ k _ e1
      obtain ⟨b', o', rfl, hbB', hc'⟩ := (r'.below hfin).one e2
      obtain ⟨pc, pn⟩ := p
      have hp0 := hc 0 _ rfl
      simp only [Nat.add_zero] at hp0
      clear hc e1 e2
      rcases hg with hg | ⟨hg, hg2⟩
      · simp only at hg
        have hg' : (pc == 0) = false := beq_eq_false_iff_ne.2 hg
        go_wp2
        go_round
        case rel => exact ⟨k + 1, by omega, by omega, by go_num⟩
        case measure => simp [intOf]; omega
      · simp only at hg
        subst hg
        have hg' : decide (g < 2147483647) = false := by simpa using hg2
        go_wp2
        go_round
        case rel => exact ⟨k + 1, by omega, by omega, by go_num⟩
        case measure => simp [intOf]; omega
    · obtain rfl : k = K := by omega
      by_cases hend : (k : Int) < 48
      · obtain ⟨p, g, e1, e2, hg, hg2⟩ := HF.out (by omega)
        obtain ⟨b, o, rfl, hbB, hc⟩ := (r.below hfin).at_ k _ e1
        obtain ⟨b', o', rfl, hbB', hc'⟩ := (r'.below hfin).one e2
        obtain ⟨pc, pn⟩ := p
        have hp0 := hc 0 _ rfl
        simp only [Nat.add_zero] at hp0
        clear hc e1 e2
        simp only at hg
        subst hg
        have hlt2 : k < 48 := by omega
        go_wp2
        go_ret2
        exact ⟨ret_i2 rfl rfl, hfin⟩
      · have hlt2 : ¬ k < 48 := by omega
        go_wp2
        go_ret2
        exact ⟨ret_i2 rfl rfl, hfin⟩
end Go.Proofs.Ytjopdenabmojpaa
