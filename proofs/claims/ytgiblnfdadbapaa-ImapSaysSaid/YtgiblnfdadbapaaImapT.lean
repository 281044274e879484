/- imap.Write and linenref.ImapText, walked. -/
import Derived.Test.YtgiblnfdadbapaaImapW
import Derived.Test.YtgiblnfdadbapaaInodeP
import Derived.Test.YtgiblnfdadbapaaFixW
import Derived.Test.YtgiblnfdadbapaaPutW
import Derived.Test.YtgiblnfdadbapaaHeld
namespace Go.Proofs.Ytgiblnfdadbapaa
open Go.RowKit

def impL : List PlaceD → List Int → List Int
  | p :: ps, g :: gs => putL g ++ (p.Cell :: p.Nth :: impL ps gs)
  | _, _ => []
theorem impL_take : ∀ (xs : List PlaceD) (gs : List Int) (i : Nat) (p : PlaceD) (g : Int), xs[i]? = some p → gs[i]? = some g → impL (xs.take (i + 1)) (gs.take (i + 1)) = impL (xs.take i) (gs.take i) ++ (putL g ++ [p.Cell, p.Nth])
  | q :: qs, h :: hs, 0, p, g, h1, h2 => by
    simp at h1 h2
    subst h1; subst h2
    simp [impL]
  | q :: qs, h :: hs, i + 1, p, g, h1, h2 => by
    have := impL_take qs hs i p g (by simpa using h1) (by simpa using h2)
    simp [impL, this]
  | [], _, _, _, _, h1, _ => by simp at h1
  | _ :: _, [], _, _, _, _, h2 => by simp at h2
noncomputable def impS (xs : List PlaceD) (gs : List Int) : List Int := if impE xs gs = 0 then impL xs gs else []
theorem impE_zero {xs : List PlaceD} {gs : List Int} (h : impE xs gs = 0) : ImapOk xs gs := by
  unfold impE at h
  split at h
  · assumption
  · cases h
theorem putL_len (n : Int) : (putL n).length ≤ 10 := (putF_length 9 n).1

set_option maxRecDepth 20000 in
set_option maxHeartbeats 1000000 in
theorem imapw_any (A : Option Addr) (n c : Nat) (xs : List PlaceD) (A' : Option Addr) (n' c' : Nat) (gs : List Int) (w : World) (r : RowsIn w w.heap.size A n c PlaceD.cells 2 xs) (r' : RowsIn w w.heap.size A' n' c' (fun z => [.int .i64 z]) 1 gs) :
    Calls Try.prog 4 #[.agg #[.slice A n c, .slice A' n' c']] w fun e w' => e = .returned (.tuple #[.string (strOfNums (impS xs gs)), .int .i64 (impE xs gs)]) ∧ Below w.heap.size w w' := by
  have hbw : Below w.heap.size w (w.alloc (.cells #[.slice A n c, .slice A' n' c'] 25)) := (Below.refl _ _).alloc (Nat.le_refl _) _
  obtain ⟨hb0, hb1⟩ := box2 w (.slice A n c) (.slice A' n' c') 25
  have hws : w.heap.size < (w.alloc (.cells #[.slice A n c, .slice A' n' c'] 25)).heap.size := by simp
  obtain ⟨wa, hwa⟩ : ∃ wa, wa = w.alloc (.cells #[.slice A n c, .slice A' n' c'] 25) := ⟨_, rfl⟩
  rw [← hwa] at hb0 hb1 hbw hws
  have H := Lib.hid (imapc_any A n c xs A' n' c' gs wa ((r.below hbw).more (Nat.le_of_lt hws)) ((r'.below hbw).more (Nat.le_of_lt hws)))
  by_cases hE : impE xs gs = 0
  · have ok := impE_zero hE
    have hn := r.len
    have hn' := r'.len
    rw [ok.1] at hn
    rw [ok.2.1] at hn'
    subst hn
    subst hn'
    have hS : impS xs gs = impL xs gs := if_pos hE
    rw [hE] at H
    have F := Lib.hid hS
    have E := Lib.hid hE
    have HR := Lib.hid ok.2.2
    have X1 := Lib.hid ok.1
    have X2 := Lib.hid ok.2.1
    clear hS hE ok
    go_enter Try.func4, Try.ntmps4
    go_wp2_with (go_at_call 6; rw [← hwa]; refine H.out.mono ?_; rintro e w1 ⟨rfl, hbc⟩; have hc00 := (hbc.cell (p := ⟨w.heap.size, 0, none⟩) hws).trans hb0)
    have hba : Below wa.heap.size wa w1 := hbc
    clear hwa H hbc
    go_loopw [5, 16] (fun v5 v16 wr => ∃ (i : Nat) (T : List Int), i ≤ 48 ∧ T.length ≤ 12 * i ∧ Hid (T = impL (xs.take i) (gs.take i)) ∧ v16 = .int .i64 i ∧ v5 = .string (strOfNums T) ∧ Below wa.heap.size wa wr) (fun _ v16 _ => 48 - (intOf v16).toNat)
    case atStart => exact ⟨0, [], Nat.zero_le _, by simp, by simp [Hid, impL], rfl, rfl, hba⟩
    case round =>
      obtain ⟨i, T, hi, hT, hTe, rfl, rfl, hb⟩ := hrel
      have hsz := hb.size
      have hfin : Below w.heap.size w wr := hbw.trans (hb.mono (Nat.le_of_lt hws))
      have hm0 := (hb.cell (p := ⟨w.heap.size, 0, none⟩) hws).trans hb0
      have hm1 := (hb.cell (p := ⟨w.heap.size, 1, none⟩) hws).trans hb1
      by_cases hlt : i < 48
      · obtain ⟨p, g, e1, e2, g1, g2, g3⟩ := HR.out i hlt
        obtain ⟨b, o, rfl, hbB, hc⟩ := (r.below hfin).at_ i _ e1
        obtain ⟨b', o', rfl, hbB', hc'⟩ := (r'.below hfin).one e2
        obtain ⟨pc, pn⟩ := p
        have hp0 := hc 0 _ rfl
        have hp1 := hc 1 _ rfl
        simp only [Nat.add_zero] at hp0
        obtain ⟨z0, z1, z2, z3⟩ := right_bd g1
        simp only at z0 z1 z2 z3
        have HP := Lib.hid (impL_take xs gs i _ _ e1 e2)
        clear hc e1 e2 g1
        have C1 : Hid (∀ W, Calls Try.prog 10 #[.int .u64 g] W fun e w' => e = .returned (.string (strOfNums (putL g))) ∧ Below W.heap.size W w') := fun W => put_any g W (by omega) (by omega)
        have u0 : IntKind.u64.wrap g = g := by rw [IntKind.wrap_u64]; omega
        have pl := putL_len g
        generalize putL g = PG at *
        have D1 : Hid (∀ W, Calls Try.prog 11 #[.int .u64 pc, .int .i64 1] W fun e w' => e = .returned (.string (strOfNums [pc])) ∧ Below W.heap.size W w') := fun W => by
          have := fix_any pc 1 W (by omega) (by omega) (by omega) (by omega); rwa [fix1 (by omega) (by omega)] at this
        have D2 : Hid (∀ W, Calls Try.prog 11 #[.int .u64 pn, .int .i64 1] W fun e w' => e = .returned (.string (strOfNums [pn])) ∧ Below W.heap.size W w') := fun W => by
          have := fix_any pn 1 W (by omega) (by omega) (by omega) (by omega); rwa [fix1 (by omega) (by omega)] at this
        have u1 : IntKind.u64.wrap pc = pc := by rw [IntKind.wrap_u64]; omega
        have u2 : IntKind.u64.wrap pn = pn := by rw [IntKind.wrap_u64]; omega
        have hcatA := run_cat (P := Try.prog) PG [pc] (by simp; omega)
        have hcatB := run_cat (P := Try.prog) (PG ++ [pc]) [pn] (by simp; omega)
        have hcatC := run_cat (P := Try.prog) T (PG ++ [pc] ++ [pn]) (by simp; omega)
        generalize hR : PG ++ [pc] ++ [pn] = R at hcatB hcatC
        have HRr := Lib.hid hR
        generalize hQ : PG ++ [pc] = Q at hcatA hcatB
        clear hR hQ
        go_wp2
        obtain ⟨q0, q1⟩ := box2 wr (.int .i64 pc) (.int .i64 pn) 34
        obtain ⟨wq, hwq⟩ : ∃ wq, wq = wr.alloc (.cells #[.int .i64 pc, .int .i64 pn] 34) := ⟨_, rfl⟩
        have hbq : Below wr.heap.size wr wq := by rw [hwq]; exact (Below.refl _ _).alloc (Nat.le_refl _) _
        rw [← hwq] at q0 q1 ⊢
        have hqz : wr.heap.size + 1 ≤ wq.heap.size := by rw [hwq]; simp
        have HS2 : wq.cell? ⟨w.heap.size, 1, none⟩ = some (.slice (some ⟨b', o', none⟩) 48 c') ∧ wq.cell? ⟨b', o' + i, none⟩ = some (.int .i64 g) ∧ wq.cell? ⟨wr.heap.size, 0, none⟩ = some (.int .i64 pc) ∧ wq.cell? ⟨wr.heap.size, 1, none⟩ = some (.int .i64 pn) ∧ wr.heap.size + 1 ≤ wq.heap.size ∧ Below wa.heap.size wa wq := ⟨(hbq.cell (p := ⟨w.heap.size, 1, none⟩) (show w.heap.size < wr.heap.size by omega)).trans hm1, (hbq.cell (p := ⟨b', o' + i, none⟩) (show b' < wr.heap.size by omega)).trans hc', q0, q1, hqz, hb.trans (hbq.mono hsz)⟩
        have b0 : w.heap.size < wr.heap.size + 1 := by omega
        have b1 : b' < wr.heap.size + 1 := by omega
        have b2 : wr.heap.size < wr.heap.size + 1 := by omega
        clear q0 q1 hp0 hp1 hm0 hm1 hc' hwq hbq hqz
        have hil : (i : Int) < 48 := by omega
        go_region_held3 (fun W => W.cell? ⟨w.heap.size, 1, none⟩ = some (.slice (some ⟨b', o', none⟩) 48 c') ∧ W.cell? ⟨b', o' + i, none⟩ = some (.int .i64 g) ∧ W.cell? ⟨wr.heap.size, 0, none⟩ = some (.int .i64 pc) ∧ W.cell? ⟨wr.heap.size, 1, none⟩ = some (.int .i64 pn) ∧ wr.heap.size + 1 ≤ W.heap.size ∧ Below wa.heap.size wa W)
          (first | assumption | exact keepc4d (by assumption) | exact keepc4b b0 b1 b2 b2 (by assumption) (by assumption))
          (first
          | (go_at_call_of 10 (Value.int .u64 g); refine (C1.out _).mono ?_; rintro e w' ⟨rfl, hb⟩)
          | (go_at_call_of 11 (Value.int .u64 pc); refine (D1.out _).mono ?_; rintro e w' ⟨rfl, hb⟩)
          | (go_at_call_of 11 (Value.int .u64 pn); refine (D2.out _).mono ?_; rintro e w' ⟨rfl, hb⟩))
        rename_i hHeld
        have hfin4 := keepc4w hHeld
        clear hcatA hcatB hcatC u0 u1 u2 D1 D2 C1 hHeld HS2 b0 b1 b2
        go_wp2
        go_roundw
        case rel => exact ⟨i + 1, T ++ R, by omega, by rw [← HRr.out]; simp; omega, by simp only [Hid]; rw [HP.out, hTe.out, ← HRr.out]; simp, by go_num, rfl, hfin4⟩
        case measure => simp [intOf]; omega
      · have hF : impS xs gs = T := by
          rw [F.out, hTe.out, List.take_of_length_le (by have := X1.out; omega), List.take_of_length_le (by have := X2.out; omega)]
        go_wp2
        go_ret2
        exact ⟨ret_s2 (by rw [hF]) E.out.symm, hfin⟩
  · have hS : impS xs gs = [] := if_neg hE
    have hne : (impE xs gs != 0) = true := bne_iff_ne.2 hE
    have F := Lib.hid hS
    generalize impE xs gs = ee at *
    clear hE
    go_enter Try.func4, Try.ntmps4
    go_wp2_with (go_at_call 6; rw [← hwa]; refine H.out.mono ?_; rintro e w1 ⟨rfl, hbc⟩)
    go_ret2
    exact ⟨ret_s2 (by rw [F.out]; rfl) rfl, hbw.trans (hbc.mono (Nat.le_of_lt hws))⟩

set_option maxRecDepth 20000 in
set_option maxHeartbeats 1000000 in
theorem imapt_any (A : Option Addr) (n c : Nat) (xs : List PlaceD) (A' : Option Addr) (n' c' : Nat) (gs : List Int) (w : World) (r : RowsIn w w.heap.size A n c PlaceD.cells 2 xs) (r' : RowsIn w w.heap.size A' n' c' (fun z => [.int .i64 z]) 1 gs) :
    Calls Try.prog 5 #[.agg #[.slice A n c, .slice A' n' c']] w fun e w' => e = .returned (.tuple #[.string (strOfNums (impS xs gs)), .int .i64 (impE xs gs)]) ∧ Below w.heap.size w w' := by
  have hbw : Below w.heap.size w (w.alloc (.cells #[.slice A n c, .slice A' n' c'] 25)) := (Below.refl _ _).alloc (Nat.le_refl _) _
  obtain ⟨hb0, hb1⟩ := box2 w (.slice A n c) (.slice A' n' c') 25
  have hws : w.heap.size < (w.alloc (.cells #[.slice A n c, .slice A' n' c'] 25)).heap.size := by simp
  obtain ⟨wa, hwa⟩ : ∃ wa, wa = w.alloc (.cells #[.slice A n c, .slice A' n' c'] 25) := ⟨_, rfl⟩
  rw [← hwa] at hb0 hb1 hbw hws
  have H := Lib.hid (imapr_any A n c xs A' n' c' gs wa ((r.below hbw).more (Nat.le_of_lt hws)) ((r'.below hbw).more (Nat.le_of_lt hws)))
  by_cases hE : impE xs gs = 0
  · have ok := impE_zero hE
    have hn := r.len
    have hn' := r'.len
    rw [ok.1] at hn
    rw [ok.2.1] at hn'
    subst hn
    subst hn'
    have hS : impS xs gs = impL xs gs := if_pos hE
    rw [hE] at H
    have F := Lib.hid hS
    have E := Lib.hid hE
    have HR := Lib.hid ok.2.2
    have X1 := Lib.hid ok.1
    have X2 := Lib.hid ok.2.1
    clear hS hE ok
    go_enter Try.func5, Try.ntmps5
    go_wp2_with (go_at_call 7; rw [← hwa]; refine H.out.mono ?_; rintro e w1 ⟨rfl, hbc⟩; have hc00 := (hbc.cell (p := ⟨w.heap.size, 0, none⟩) hws).trans hb0)
    have hba : Below wa.heap.size wa w1 := hbc
    clear hwa H hbc
    go_loopw [5, 12] (fun v5 v16 wr => ∃ (i : Nat) (T : List Int), i ≤ 48 ∧ T.length ≤ 12 * i ∧ Hid (T = impL (xs.take i) (gs.take i)) ∧ v16 = .int .i64 i ∧ v5 = .string (strOfNums T) ∧ Below wa.heap.size wa wr) (fun _ v16 _ => 48 - (intOf v16).toNat)
    case atStart => exact ⟨0, [], Nat.zero_le _, by simp, by simp [Hid, impL], rfl, rfl, hba⟩
    case round =>
      obtain ⟨i, T, hi, hT, hTe, rfl, rfl, hb⟩ := hrel
      have hsz := hb.size
      have hfin : Below w.heap.size w wr := hbw.trans (hb.mono (Nat.le_of_lt hws))
      have hm0 := (hb.cell (p := ⟨w.heap.size, 0, none⟩) hws).trans hb0
      have hm1 := (hb.cell (p := ⟨w.heap.size, 1, none⟩) hws).trans hb1
      by_cases hlt : i < 48
      · obtain ⟨p, g, e1, e2, g1, g2, g3⟩ := HR.out i hlt
        obtain ⟨b, o, rfl, hbB, hc⟩ := (r.below hfin).at_ i _ e1
        obtain ⟨b', o', rfl, hbB', hc'⟩ := (r'.below hfin).one e2
        obtain ⟨pc, pn⟩ := p
        have hp0 := hc 0 _ rfl
        have hp1 := hc 1 _ rfl
        simp only [Nat.add_zero] at hp0
        obtain ⟨z0, z1, z2, z3⟩ := right_bd g1
        simp only at z0 z1 z2 z3
        have HP := Lib.hid (impL_take xs gs i _ _ e1 e2)
        clear hc e1 e2 g1
        have C1 : Hid (∀ W, Calls Try.prog 12 #[.int .u64 g] W fun e w' => e = .returned (.string (strOfNums (putL g))) ∧ Below W.heap.size W w') := fun W => putr_all g W (by omega) (by omega)
        have u0 : IntKind.u64.wrap g = g := by rw [IntKind.wrap_u64]; omega
        have pl := putL_len g
        generalize putL g = PG at *
        have D1 : Hid (∀ W, Calls Try.prog 13 #[.int .u64 (pc * 256 + pn), .int .i64 2] W fun e w' => e = .returned (.string (strOfNums [pc, pn])) ∧ Below W.heap.size W w') := fun W => by
          have := fixr_any (pc * 256 + pn) 2 W (by omega) (by omega) (by omega) (by omega); rwa [fix2 (by omega) (by omega) (by omega) (by omega)] at this
        have u1 : IntKind.u64.wrap (pc * 256 + pn) = pc * 256 + pn := by rw [IntKind.wrap_u64]; omega
        have u2 : IntKind.i64.wrap (pc * 256) = pc * 256 := by rw [IntKind.wrap_i64]; omega
        have u3 : IntKind.i64.wrap (pc * 256 + pn) = pc * 256 + pn := by rw [IntKind.wrap_i64]; omega
        have hcatB := run_cat (P := Try.prog) PG [pc, pn] (by simp; omega)
        have hcatC := run_cat (P := Try.prog) T (PG ++ [pc, pn]) (by simp; omega)
        generalize hR : PG ++ [pc, pn] = R at hcatB hcatC
        have HRr := Lib.hid hR
        clear hR
        have HS2 : wr.cell? ⟨w.heap.size, 0, none⟩ = some (.slice (some ⟨b, o, none⟩) 48 c) ∧ wr.cell? ⟨w.heap.size, 1, none⟩ = some (.slice (some ⟨b', o', none⟩) 48 c') ∧ wr.cell? ⟨b', o' + i, none⟩ = some (.int .i64 g) ∧ wr.cell? ⟨b, o + i * 2, none⟩ = some (.int .i64 pc) ∧ wr.cell? ⟨b, o + i * 2 + 1, none⟩ = some (.int .i64 pn) ∧ wr.heap.size ≤ wr.heap.size ∧ Below wa.heap.size wa wr := ⟨hm0, hm1, hc', hp0, hp1, Nat.le_refl _, hb⟩
        have b0 : w.heap.size < wr.heap.size := by omega
        have b1 : b' < wr.heap.size := by omega
        have b2 : b < wr.heap.size := by omega
        clear hp0 hp1 hm0 hm1 hc'
        have hil : (i : Int) < 48 := by omega
        go_wp2
        go_region_held3 (fun W => W.cell? ⟨w.heap.size, 0, none⟩ = some (.slice (some ⟨b, o, none⟩) 48 c) ∧ W.cell? ⟨w.heap.size, 1, none⟩ = some (.slice (some ⟨b', o', none⟩) 48 c') ∧ W.cell? ⟨b', o' + i, none⟩ = some (.int .i64 g) ∧ W.cell? ⟨b, o + i * 2, none⟩ = some (.int .i64 pc) ∧ W.cell? ⟨b, o + i * 2 + 1, none⟩ = some (.int .i64 pn) ∧ wr.heap.size ≤ W.heap.size ∧ Below wa.heap.size wa W)
          (first | assumption | exact keepc5d (by assumption) | exact keepc5b b0 b0 b1 b2 b2 (by assumption) (by assumption))
          (first
          | (go_at_call_of 12 (Value.int .u64 g); refine (C1.out _).mono ?_; rintro e w' ⟨rfl, hb⟩)
          | (go_at_call_of 13 (Value.int .i64 2); refine (D1.out _).mono ?_; rintro e w' ⟨rfl, hb⟩))
        rename_i hHeld
        have hfin4 := keepc5w hHeld
        clear hcatB hcatC u0 u1 u2 u3 D1 C1 hHeld HS2 b0 b1 b2
        go_wp2
        go_roundw
        case rel => exact ⟨i + 1, T ++ R, by omega, by rw [← HRr.out]; simp; omega, by simp only [Hid]; rw [HP.out, hTe.out, ← HRr.out], by go_num, rfl, hfin4⟩
        case measure => simp [intOf]; omega
      · have hF : impS xs gs = T := by
          rw [F.out, hTe.out, List.take_of_length_le (by have := X1.out; omega), List.take_of_length_le (by have := X2.out; omega)]
        go_wp2
        go_ret2
        exact ⟨ret_s2 (by rw [hF]) E.out.symm, hfin⟩
  · have hS : impS xs gs = [] := if_neg hE
    have hne : (impE xs gs != 0) = true := bne_iff_ne.2 hE
    have F := Lib.hid hS
    generalize impE xs gs = ee at *
    clear hE
    go_enter Try.func5, Try.ntmps5
    go_wp2_with (go_at_call 7; rw [← hwa]; refine H.out.mono ?_; rintro e w1 ⟨rfl, hbc⟩)
    go_ret2
    exact ⟨ret_s2 (by rw [F.out]; rfl) rfl, hbw.trans (hbc.mono (Nat.le_of_lt hws))⟩
end Go.Proofs.Ytgiblnfdadbapaa
