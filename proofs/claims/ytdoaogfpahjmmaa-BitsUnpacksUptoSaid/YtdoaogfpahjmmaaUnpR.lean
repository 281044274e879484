/- linenref.Unpack, walked. -/
import Derived.Test.YtdoaogfpahjmmaaUnpW
import Derived.Test.YtdoaogfpahjmmaaBitsR
import Derived.Test.YtdoaogfpahjmmaaNumberW
import Derived.Test.YtdoaogfpahjmmaaSlc
namespace Go.Proofs.Ytdoaogfpahjmmaa
open Go.RowKit Go.PlainAid

set_option maxRecDepth 20000 in
set_option maxHeartbeats 2000000 in
theorem unpr_any (s : ByteArray) (A : Option Addr) (n c : Nat) (ws : List Int) (w : World) (r : RowsIn w w.heap.size A n c (fun z => [.int .i64 z]) 1 ws) (hs : s.size ≤ 1048575) (hn : n ≤ 1048575) :
    Calls Try.prog 37 #[.string s, .slice A n c] w (UnPost s ws w) := by
  have hlen := r.len
  obtain rfl := hlen
  obtain ⟨J, hJ, hg, hbd⟩ := unp_first ws
  have HG := Lib.hid hg
  have HBD := Lib.hid hbd
  have HF := Lib.hid (fun W => bitsr_any s W hs)
  clear hg hbd
  have hz0 : wsum (ws.take 0) = 0 := by simp [wsum]
  go_enter Try.func37, Try.ntmps37
  go_wp2
  go_loop [6, 15] (fun v6 v15 => ∃ i : Nat, i ≤ J ∧ v15 = .int .i64 i ∧ v6 = .int .i64 (wsum (ws.take i)) ∧ wsum (ws.take i) ≤ 64 * i) (fun _ v15 => ws.length - (intOf v15).toNat)
  case atStart => exact ⟨0, Nat.zero_le _, rfl, by rw [hz0]; rfl, by omega⟩
  case round =>
    obtain ⟨i, hi, rfl, rfl, hti⟩ := hrel
    clear hz0
    by_cases hlt : i < J
    · obtain ⟨x, e1, hx⟩ := HG.out i hlt
      obtain ⟨b, o, rfl, hbB, hc⟩ := r.one e1
      have HT := Lib.hid (wsum_succ e1)
      rw [Int.toNat_natCast] at HT
      have i1 : (i : Int) < (ws.length : Int) := by omega
      generalize wsum (ws.take i) = T at *
      clear e1
      go_wp2
      go_round
      case rel => exact ⟨i + 1, by omega, by go_num, by rw [HT.out]; go_num, by rw [HT.out]; omega⟩
      case measure => (simp [intOf]; try omega)
    · obtain rfl : i = J := by omega
      by_cases hend : i < ws.length
      · obtain ⟨x, e1, hx⟩ := HBD.out hend
        obtain ⟨b, o, rfl, hbB, hc⟩ := r.one e1
        have F := Lib.hid (unp_arg (s := s) e1 hx)
        have i1 : (i : Int) < (ws.length : Int) := by omega
        have hx' : x < 0 ∨ (0 ≤ x ∧ 64 < x) := by unfold WOk at hx; omega
        clear hx e1
        rcases hx' with h | ⟨h, h'⟩
        all_goals
          go_wp2
          go_ret2
          exact unPost_no F.out (Below.refl _ _)
      · have hie : i = ws.length := by omega
        have hall := unp_all hie HG.out
        have hTT : wsum (ws.take i) = wsum ws := by rw [List.take_of_length_le (by omega)]
        rw [hTT] at hti ⊢
        have i1 : ¬ (i : Int) < (ws.length : Int) := by omega
        have HIE := Lib.hid hie
        by_cases hsh : 8 * s.size < wsum ws
        · have F := Lib.hid (unp_short hall hsh)
          have j1 : ((8 * s.size : Nat) : Int) < (wsum ws : Int) := by omega
          generalize wsum ws = T at *
          clear hie hall hTT
          go_wp2_with (go_at_call 49; refine (HF.out _).mono ?_; rintro e w1 ⟨AB, cB, rfl, rB, hb1⟩)
          go_ret2
          exact unPost_no F.out hb1
        · have F := Lib.hid (unp_ok hall hsh)
          have j1 : ¬ ((8 * s.size : Nat) : Int) < (wsum ws : Int) := by omega
          have HSUM : Hid (∀ k, k ≤ ws.length → wsum (ws.take k) ≤ 8 * s.size) := fun k hk => by have := wsum_le k hk; omega
          generalize wsum ws = T at *
          clear hie hall hTT hsh
          go_wp2_with (go_at_call 49; refine (HF.out _).mono ?_; rintro e w1 ⟨AB, cB, rfl, rB, hb1⟩)
          have hz1 := hb1.size
          have r0' : IntRow w1 w1.heap.size (.slice AB (8 * s.size) cB) (8 * s.size) ((tbL s).drop (wsum (ws.take 0))) := ⟨_, _, rfl, by simpa [wsum] using rB⟩
          clear rB
          go_loopw [9, 10, 37] (fun v9 v10 v37 wr => ∃ i m : Nat, i ≤ ws.length ∧ v37 = .int .i64 i ∧ IntRow w1 w1.heap.size v9 m ((tbL s).drop (wsum (ws.take i))) ∧ Owns wr w1.heap.size 1 v10 i ((unN s ws i).map (Value.int .u64)) ∧ Below w1.heap.size w1 wr) (fun _ _ v37 _ => ws.length - (intOf v37).toNat)
          case atStart => exact ⟨0, 8 * s.size, Nat.zero_le _, rfl, r0', Owns.nil _ _ _, Below.refl _ _⟩
          case round =>
            obtain ⟨k, m, hk, rfl, ⟨AR, cR, rfl, hr⟩, hown, hb⟩ := hrel
            obtain ⟨AO, cO, rfl⟩ := hown.form
            have hz := hb.size
            by_cases hlt : k < ws.length
            · obtain ⟨x, e1, hx⟩ := HG.out k (by omega)
              obtain ⟨b, o, rfl, hbB, hc⟩ := ((r.below hb1).below (hb.mono hz1)).one e1
              have HT := Lib.hid (wsum_succ e1)
              have HN := Lib.hid (unN_succ (s := s) e1)
              have hfit := HSUM.out (k + 1) (by omega)
              rw [HT.out] at hfit
              rw [Int.toNat_natCast] at HT hfit HN
              have k1 : (k : Int) < (ws.length : Int) := by omega
              generalize wsum (ws.take k) = a at *
              have hlr := hr.len
              rw [List.length_drop, tbL_length] at hlr
              have hm : x ≤ m := by omega
              have hmc := hr.le
              have HV := Lib.hid (horn_cut s a x hfit)
              have HBT : Hid (∀ y ∈ ((tbL s).drop a).take x, 0 ≤ y ∧ y ≤ 1) := fun y hy => tbL_bit s y (List.mem_of_mem_drop (List.mem_of_mem_take hy))
              have HPRE := Lib.hid (hr.pre hm)
              have HNUM : Hid (∀ W, Below w1.heap.size w1 W → Calls Try.prog 24 #[.slice AR x cR] W fun e w' => e = .returned (.int .u64 (tn s a x)) ∧ W = w') := fun W hW => by
                have := number_any AR x cR _ w1.heap.size W (HPRE.out.below hW) HBT.out hx
                rw [HV.out] at this; exact this
              have HSUF := Lib.hid (hr.suf_opt hm)
              rw [List.drop_drop, ← HT.out] at HSUF
              have HOW := Lib.hid hown
              have HBB := Lib.hid hb
              generalize hU : (unN s ws k).map (Value.int .u64) = U at *
              have HU := Lib.hid hU
              generalize tn s a x = V at *
              have i2 : (x : Int) ≤ (m : Int) := by omega
              have i3 : (x : Int) ≤ (cR : Int) := by omega
              have i6 : x ≤ cR := by omega
              clear e1 hown hb hU hfit hlr hr
              go_wp2_with (first
                | (go_at_call 24; refine (HNUM.out _ HBB.out).mono ?_; rintro e w2 ⟨rfl, rfl⟩)
                | (at_builtin; refine wpList_add1 rfl rfl Try.underlying61 info_u64u rfl (Nat.le_refl 1) HOW.out rfl hz rfl rfl rfl ?_ ?_ ?_ ?_; simp [Value.oneCell']; (unfold maxLen; omega); omega; intro A3 c3 w3 hown3 hl3 hbk3))
              have HO3 := Lib.hid hown3
              have HB3 := Lib.hid (hl3.below (Nat.le_refl _) HBB.out)
              clear hown3 hl3 hbk3
              refine ⟨⟨k + 1, m - x, by omega, by go_num, ⟨_, _, rfl, HSUF.out⟩, by rw [HN.out, List.map_append, HU.out]; exact HO3.out, HB3.out⟩, ?_⟩
              simp [intOf]; omega
            · obtain rfl : k = ws.length := by omega
              have k1 : ¬ (ws.length : Int) < (ws.length : Int) := by omega
              have HOO : Hid (RowsIn wr wr.heap.size AO ws.length cO (fun z => [.int .u64 z]) 1 (unN s ws ws.length)) := own_u64s hown
              have HBB := Lib.hid (hb1.trans (hb.mono hz1))
              clear hown hb hr
              go_wp2
              go_ret2
              exact ⟨AO, _, cO, by rw [F.out.1]; rfl, by rw [F.out.2]; exact HOO.out, HBB.out⟩
end Go.Proofs.Ytdoaogfpahjmmaa
