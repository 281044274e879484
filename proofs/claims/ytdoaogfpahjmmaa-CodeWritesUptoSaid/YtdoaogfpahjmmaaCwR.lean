/- linenref.CodeWrite, walked. -/
import Derived.Test.YtdoaogfpahjmmaaCwW
import Derived.Test.YtdoaogfpahjmmaaCwordW
import Derived.Test.YtdoaogfpahjmmaaCanonR
import Derived.Test.YtdoaogfpahjmmaaTwo
namespace Go.Proofs.Ytdoaogfpahjmmaa
open Go.RowKit

theorem sgB_take {l signs : List Int} {i : Nat} {s : Int} (h : signs[i]? = some s) : ((signs.take (i + 1)).flatMap (sgB l)).map (Value.int .i64) = ((signs.take i).flatMap (sgB l)).map (Value.int .i64) ++ (cword (cd l s) (wd l s).toNat).map (Value.int .i64) := by
  rw [List.take_add_one, h]; simp [sgB]
theorem wd_take {l signs : List Int} {i : Nat} {s : Int} (h : signs[i]? = some s) : ((signs.take (i + 1)).map (wd l)).map (Value.int .i64) = ((signs.take i).map (wd l)).map (Value.int .i64) ++ [.int .i64 (wd l s)] := by
  rw [List.take_add_one, h]; simp
theorem keepH2b {W W' : World} {a0 a1 : Addr} {v0 v1 : Value} (b0 : a0.block < W.heap.size) (b1 : a1.block < W.heap.size) (h : W.cell? a0 = some v0 ∧ W.cell? a1 = some v1) (hb : Below W.heap.size W W') : W'.cell? a0 = some v0 ∧ W'.cell? a1 = some v1 :=
  ⟨(hb.cell (p := a0) b0).trans h.1, (hb.cell (p := a1) b1).trans h.2⟩

def CwrPost (l sg : List Int) (w : World) (e : Ending) (w' : World) : Prop := ∃ A q d A' q' d', e = .returned (.tuple #[.slice A q d, .slice A' q' d', .int .i64 (cwE l sg)]) ∧ RowsIn w' w'.heap.size A q d (fun z => [.int .i64 z]) 1 (cwB l sg) ∧ RowsIn w' w'.heap.size A' q' d' (fun z => [.int .i64 z]) 1 (cwW l sg) ∧ Below w.heap.size w w'

set_option maxRecDepth 20000 in
set_option maxHeartbeats 2000000 in
theorem cwr_any (A : Option Addr) (n c : Nat) (l : List Int) (A' : Option Addr) (n' c' : Nat) (sg : List Int) (w : World) (r : RowsIn w w.heap.size A n c (fun z => [.int .i64 z]) 1 l) (r' : RowsIn w w.heap.size A' n' c' (fun z => [.int .i64 z]) 1 sg) (hsg : n' ≤ 1048575) :
    Calls Try.prog 23 #[.slice A n c, .slice A' n' c'] w (CwrPost l sg w) := by
  have hlen := r.len
  obtain rfl := hlen
  have hlen' := r'.len
  obtain rfl := hlen'
  have H := Lib.hid (canonr_any A l.length c l w r)
  by_cases hE : canE l = 0
  · have hX : canX l = canL l l.length := by unfold canX; rw [if_pos hE]
    rw [hE, hX] at H
    obtain ⟨J, hJ, hg0, hb0, hz0, ho0⟩ := sgs_to l sg
    have HG := Lib.hid hg0
    have HBD := Lib.hid hb0
    have HZ := Lib.hid hz0
    have HO := Lib.hid ho0
    have HCB := Lib.hid (fun k x h => cd_bd hE (k := k) (x := x) h)
    have HWD := Lib.hid (fun s h => wd_bd hE (s := s) h)
    have HE := Lib.hid hE
    clear hg0 hb0 hz0 ho0 hE hX
    have R := Lib.hid r
    have R' := Lib.hid r'
    go_enter Try.func23, Try.ntmps23
    go_wp2_with (go_at_call 18; refine H.out.mono ?_; rintro e w1 ⟨A1, n1, c1, rfl, r1, hb1⟩)
    have hn1 := r1.len
    rw [canL_length] at hn1
    obtain rfl := hn1
    go_loopw [9, 10, 23] (fun v9 v10 v23 wr => ∃ i q : Nat, i ≤ J ∧ q ≤ 15 * i ∧ v23 = .int .i64 i ∧ Owns wr w1.heap.size 1 v9 q (((sg.take i).flatMap (sgB l)).map (Value.int .i64)) ∧ Owns wr w1.heap.size 1 v10 i (((sg.take i).map (wd l)).map (Value.int .i64)) ∧ Apart v9 v10 ∧ Below w1.heap.size w1 wr) (fun _ _ v23 _ => sg.length - (intOf v23).toNat)
    case atStart => exact ⟨0, 0, Nat.zero_le _, Nat.zero_le _, rfl, Owns.nil _ _ _, Owns.nil _ _ _, Apart.nil _ _ _, Below.refl _ _⟩
    case round =>
      obtain ⟨i, q, hi, hq, rfl, hown, hown', hap, hb⟩ := hrel
      obtain ⟨AO, cO, rfl⟩ := hown.form
      obtain ⟨AW, cW, rfl⟩ := hown'.form
      have hsz := hb.size
      have hsz1 := hb1.size
      by_cases hlt : i < J
      · obtain ⟨s, e1, hs⟩ := HG.out i hlt
        obtain ⟨k, rfl, hk, hw0⟩ := sg_nat hs
        have HT := Lib.hid (sgB_take (l := l) e1)
        have HT' := Lib.hid (wd_take (l := l) e1)
        obtain ⟨bs, os, rfl, hbs, hcs⟩ := ((R'.out.below hb1).below (hb.mono hsz1)).one e1
        have e2 := List.getElem?_eq_getElem hk
        obtain ⟨bl, ol, rfl, hbl, hcl⟩ := ((R.out.below hb1).below (hb.mono hsz1)).one e2
        obtain ⟨e3, e4, hc0, hc1⟩ := HCB.out k _ e2
        obtain ⟨bc, oc, rfl, hbc, hcc⟩ := (r1.below hb).one e3
        have hwb := HWD.out _ hs
        rw [← e4] at hcl
        generalize wd l k = x at *
        generalize cd l k = m at *
        have hlen := cword_length m x.toNat
        have HF : Hid (∀ W, Calls Try.prog 46 #[.int .i64 m, .int .i64 x] W fun e w' => ∃ b o d, e = .returned (.slice (some ⟨b, o, none⟩) (cword m x.toNat).length d) ∧ (∀ j u, ((cword m x.toNat).map (Value.int .i64))[j]? = some u → w'.cell? (Addr.add ⟨b, o, none⟩ j) = some u) ∧ Below W.heap.size W w') := fun W => by
          refine (cword_any m x W hc0 hc1 (by omega) (by omega)).mono ?_
          rintro e w' ⟨A2, q2, d2, rfl, r2, hb2⟩
          have hq2 := r2.len
          subst hq2
          obtain ⟨b, o, rfl, _⟩ := rows_some r2 (by omega)
          exact ⟨b, o, d2, rfl, rows_cells r2, hb2⟩
        have hx0 : (x == 0) = false := by rw [beq_eq_false_iff_ne]; omega
        have hx1 : ¬ x = 0 := by omega
        have hq15 : (cword m x.toNat).length ≤ 15 := by omega
        have HM : Hid (∀ u ∈ (cword m x.toNat).map (Value.int .i64), u.oneCell' = true) := by
          intro u hu; obtain ⟨y, _, rfl⟩ := List.mem_map.1 hu; rfl
        have HL : Hid (((cword m x.toNat).map (Value.int .i64)).length = (cword m x.toNat).length * 1) := by simp [Hid]
        generalize (cword m x.toNat).length = Q at *
        generalize (cword m x.toNat).map (Value.int .i64) = CW at *
        generalize hU : ((sg.take i).flatMap (sgB l)).map (Value.int .i64) = U at *
        generalize hU' : ((sg.take i).map (wd l)).map (Value.int .i64) = U' at *
        clear e1 e2 e3 e4 hs hw0 hlen hU hU'
        have i1 : (i : Int) < (sg.length : Int) := by omega
        have i2 : (k : Int) < (l.length : Int) := by omega
        have i3 : (0 : Int) ≤ (k : Int) := by omega
        have HS0 := Lib.hid (show wr.cell? ⟨bc, oc + k, none⟩ = some (.int .i64 m) ∧ wr.cell? ⟨bl, ol + k, none⟩ = some (.int .i64 x) from ⟨hcc, hcl⟩)
        have G3 : Hid (q + Q ≤ maxLen ∧ (q + Q) * 8 ≤ 140737488355328) := by unfold maxLen Hid; omega
        have G4 : Hid (0 < 1) := by simp [Hid]
        have GC := Lib.hid (And.intro (show bc < wr.heap.size by omega) (show bl < wr.heap.size by omega))
        have GN : Hid (Value.ownBlock (.slice AO q cO) ≠ some bc ∧ Value.ownBlock (.slice AO q cO) ≠ some bl) := ⟨fun e => by have := (hown.lt _ e).1; omega, fun e => by have := (hown.lt _ e).1; omega⟩
        have HOW := Lib.hid hown
        have HOW' := Lib.hid hown'
        have HAP := Lib.hid hap
        have HBB := Lib.hid hb
        have HSZ := Lib.hid hsz
        clear hown hown' hap hb
        go_wp2
        have hs0 := HS0.out
        go_region_held_law (fun W => W.cell? ⟨bc, oc + k, none⟩ = some (.int .i64 m) ∧ W.cell? ⟨bl, ol + k, none⟩ = some (.int .i64 x))
          (first | assumption | exact keepH2 (by assumption) | exact keepH2l GN.out.1 GN.out.2 (by assumption) hl2 | exact keepH2b (W := wr.drew) GC.out.1 GC.out.2 (by assumption) hb2)
          (first
            | (refine step_appN (P := Try.prog) (e := 3) (z := .int .i64 0) (size := 1) (bytes := 8) (base := w1.heap.size) rfl (.tmp 42) (.tmp 51) 22 rfl Try.underlying22 info_i64c rfl G4.out AO q cO U rfl HO2.out HZ2.out ⟨b2, o2, none⟩ Q d2 CW rfl HL.out hn2 HM.out G3.out.1 G3.out.2 ?_; intro A3 c3 w3 hown3 hl2 hn3)
            | (go_at_call 46; refine (HF.out _).mono ?_; rintro e w2 ⟨b2, o2, d2, rfl, hn2, hb2⟩; have HO2 := Lib.hid (HOW.out.drew.fresh_below hb2); have HZ2 := Lib.hid (Nat.le_trans HSZ.out hb2.size)))
        all_goals
          have g1 : w3.cell? ⟨bl, ol + k, none⟩ = some (.int .i64 x) := (keepH2l GN.out.1 GN.out.2 (keepH2b (W := wr.drew) GC.out.1 GC.out.2 HS0.out hb2) hl2).2
          have HOW2 := HOW'.out.drew.fresh_below hb2
          have HOW3 := Lib.hid (HOW2.apart hl2 HAP.out)
          have HAP3 := Lib.hid (HAP.out.grow hn3 (fun g e => (HOW2.lt g e).2))
          have HO3 := Lib.hid hown3
          have HB3 := Lib.hid (hl2.below (Nat.le_refl _) (HBB.out.drew.trans (hb2.mono HSZ.out)))
          clear hown3 hl2 hn3 hs0 HOW2
          go_wp2_with (at_builtin; refine wpList_add1 rfl rfl Try.underlying22 info_i64c rfl (Nat.le_refl 1) HOW3.out rfl HB3.out.size rfl rfl rfl ?_ ?_ ?_ ?_; simp [Value.oneCell']; (unfold maxLen; omega); omega; intro A4 c4 w4 hown4 hl4 hbk4)
          have HO4 := Lib.hid (HO3.out.apart hl4 HAP3.out.symm)
          have HAP4 := Lib.hid ((HAP3.out.symm.grow hbk4 (fun g e => (HO3.out.lt g e).2)).symm)
          have HB4 := Lib.hid (hl4.below (Nat.le_refl _) HB3.out)
          have HOW4 := Lib.hid hown4
          clear hown4 hl4 hbk4
          go_roundw
          case rel => exact ⟨i + 1, q + Q, by omega, by omega, by go_num, by rw [HT.out]; exact HO4.out, by rw [HT'.out]; exact HOW4.out, HAP4.out, HB4.out⟩
          case measure => (simp [intOf]; try omega)
      · obtain rfl : i = J := by omega
        by_cases hend : i < sg.length
        · have F := Lib.hid (cw_bad HE.out (HO.out hend))
          obtain ⟨s, e1, hs⟩ := HBD.out hend
          have i1 : (i : Int) < (sg.length : Int) := by omega
          have HBB := Lib.hid (hb1.trans (hb.mono hsz1))
          rcases sg_no hs with h | ⟨h, h2⟩ | ⟨k, rfl, hk, e2⟩
          · obtain ⟨bs, os, rfl, hbs, hcs⟩ := ((R'.out.below hb1).below (hb.mono hsz1)).one e1
            clear e1 hs hown hown' hap hb
            go_wp2
            go_ret3
            exact ⟨none, 0, 0, none, 0, 0, by rw [F.out.1]; rfl, by rw [F.out.2.2.1]; exact no_intsC _ _, by rw [F.out.2.2.2]; exact no_intsC _ _, HBB.out⟩
          · obtain ⟨bs, os, rfl, hbs, hcs⟩ := ((R'.out.below hb1).below (hb.mono hsz1)).one e1
            clear e1 hs hown hown' hap hb
            go_wp2
            go_ret3
            exact ⟨none, 0, 0, none, 0, 0, by rw [F.out.1]; rfl, by rw [F.out.2.2.1]; exact no_intsC _ _, by rw [F.out.2.2.2]; exact no_intsC _ _, HBB.out⟩
          · obtain ⟨bs, os, rfl, hbs, hcs⟩ := ((R'.out.below hb1).below (hb.mono hsz1)).one e1
            obtain ⟨bl, ol, rfl, hbl, hcl⟩ := ((R.out.below hb1).below (hb.mono hsz1)).one e2
            have i2 : (k : Int) < (l.length : Int) := by omega
            clear e1 hs hown hown' hap hb
            go_wp2
            go_ret3
            exact ⟨none, 0, 0, none, 0, 0, by rw [F.out.1]; rfl, by rw [F.out.2.2.1]; exact no_intsC _ _, by rw [F.out.2.2.2]; exact no_intsC _ _, HBB.out⟩
        · have hie : i = sg.length := by omega
          have F := Lib.hid (cw_ok HE.out (HZ.out hie))
          have HT : Hid ((sg.take i).flatMap (sgB l) = cwB l sg ∧ (sg.take i).map (wd l) = cwW l sg) := by simp only [Hid]; rw [F.out.2.2.1, F.out.2.2.2, List.take_of_length_le (by omega)]; exact ⟨rfl, rfl⟩
          have HOO := Lib.hid (own_intsC hown)
          have HOW := Lib.hid (own_intsC hown')
          have HBB := Lib.hid (hb1.trans (hb.mono hsz1))
          clear hie hown hown' hap hb
          go_wp2
          go_ret3
          exact ⟨AO, q, cO, AW, i, cW, by rw [F.out.1]; rfl, by rw [← HT.out.1]; exact HOO.out, by rw [← HT.out.2]; exact HOW.out, HBB.out⟩
  · have F := Lib.hid (cw_can (signs := sg) hE)
    have hne : (canE l != 0) = true := bne_iff_ne.2 hE
    generalize canE l = ce at *
    generalize canX l = X at *
    clear hE
    go_enter Try.func23, Try.ntmps23
    go_wp2_with (go_at_call 18; refine H.out.mono ?_; rintro e w1 ⟨A1, n1, c1, rfl, r1, hb1⟩)
    go_ret3
    exact ⟨none, 0, 0, none, 0, 0, by rw [F.out.1]; rfl, by rw [F.out.2.2.1]; exact no_intsC _ _, by rw [F.out.2.2.2]; exact no_intsC _ _, hb1⟩
end Go.Proofs.Ytdoaogfpahjmmaa
