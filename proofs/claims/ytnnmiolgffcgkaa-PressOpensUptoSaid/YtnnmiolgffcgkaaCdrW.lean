/- linenref.CodeRead, walked. -/
import Derived.Test.YtnnmiolgffcgkaaPrJc
import Derived.Test.YtnnmiolgffcgkaaBitsR
namespace Go.Proofs.Ytnnmiolgffcgkaa
open Go.RowKit Go.PlainAid

theorem sg_hit {l : List Int} {s : ByteArray} {a x k : Nat} {w w' : World} {e : Ending} (h : SgPost l s a w e w') (ho : one l s a = ((x : Int), (k : Int), 0)) : ∃ q k' : Nat, w' = w.drewN q ∧ e = .returned (.tuple #[.int .i64 x, .int .i64 k', .int .i64 0]) ∧ k = a + k' := by
  obtain ⟨⟨q, hq⟩, ⟨x', k', he, hone⟩ | ⟨z, hz, he, hone⟩⟩ := h
  · rw [ho] at hone
    simp only [Prod.mk.injEq] at hone
    obtain ⟨h1, h2, _⟩ := hone
    exact ⟨q, k', hq, by rw [he, h1], by omega⟩
  · rw [ho] at hone
    simp only [Prod.mk.injEq] at hone
    exact absurd hone.2.2.symm hz
theorem sg_bad {l : List Int} {s : ByteArray} {a : Nat} {z : Int} {w w' : World} {e : Ending} (h : SgPost l s a w e w') (ho : one l s a = (0, 0, z)) (hz : z ≠ 0) : ∃ q : Nat, w' = w.drewN q ∧ e = .returned (.tuple #[.int .i64 0, .int .i64 0, .int .i64 z]) := by
  obtain ⟨⟨q, hq⟩, ⟨x', k', he, hone⟩ | ⟨z', hz', he, hone⟩⟩ := h
  · rw [ho] at hone
    simp only [Prod.mk.injEq] at hone
    exact absurd hone.2.2 hz
  · rw [ho] at hone
    simp only [Prod.mk.injEq] at hone
    exact ⟨q, hq, by rw [he, hone.2.2]⟩

set_option maxRecDepth 20000 in
set_option maxHeartbeats 2000000 in
theorem cdr_any (A : Option Addr) (n c : Nat) (l : List Int) (s : ByteArray) (at_ m : Int) (w : World) (r : RowsIn w w.heap.size A n c (fun z => [.int .i64 z]) 1 l) (hs : s.size ≤ 1048575) :
    Calls Try.prog 48 #[.slice A n c, .string s, .int .i64 at_, .int .i64 m] w (CrPost l s at_ m w) := by
  have hlen := r.len
  obtain rfl := hlen
  have H := Lib.hid (canonr_any A l.length c l w r)
  have HBITS : Hid (∀ W, Calls Try.prog 80 #[.string s] W fun e w' => ∃ A c, e = .returned (.slice A (8 * s.size) c) ∧ RowsIn w' w'.heap.size A (8 * s.size) c (fun z => [.int .i64 z]) 1 (tbL s) ∧ Below W.heap.size W w') := fun W => bitsr_any s W hs
  by_cases hE : canE l = 0
  · rw [hE] at H
    by_cases hA : 0 ≤ at_ ∧ at_ ≤ 8 * (s.size : Int) ∧ 0 ≤ m
    · by_cases hM : m ≤ 1024
      · obtain ⟨hA1, hA2, hA3⟩ := hA
        obtain ⟨a, rfl⟩ := Int.eq_ofNat_of_zero_le hA1
        obtain ⟨m, rfl⟩ := Int.eq_ofNat_of_zero_le hA3
        have ha : a ≤ 8 * s.size := by omega
        have F := Lib.hid (crR_ok hE ha (by omega : m ≤ 1024))
        have hl320 := can_320 hE
        have HE := Lib.hid hE
        have R := Lib.hid r
        have hm : m ≤ 1024 := by omega
        have d1 := decide_eq_false (show ¬ (a : Int) < 0 by omega)
        have d2 := decide_eq_false (show ¬ 8 * (s.size : Int) < (a : Int) by omega)
        have d2' := decide_eq_false (show ¬ 8 * s.size < a by omega)
        have d3 := decide_eq_false (show ¬ (m : Int) < 0 by omega)
        have d4 := decide_eq_false (show ¬ (1024 : Int) < (m : Int) by omega)
        clear hE r hA1 hA2 hA3 hM
        go_enter Try.func48, Try.ntmps48
        go_wp2_with (first
          | (go_at_call 85; refine H.out.mono ?_; rintro e w1 ⟨A1, n1, c1, rfl, r1, hb1⟩; clear r1)
          | (go_at_call 80; refine (HBITS.out w1).mono ?_; rintro e w2 ⟨AB, cB, rfl, rB, hb2⟩)
          | (go_at_call 86; refine (wrd_any A l.length c l w2 (((R.out.below hb1).more hb1.size).below hb2 |>.more hb2.size) HE.out).mono ?_; rintro e w3 ⟨bw, rfl, hbw, hWR, hb3⟩))
        have HB3 := Lib.hid (hb1.trans ((hb2.mono hb1.size).trans (hb3.mono (Nat.le_trans hb1.size hb2.size))))
        have HRB := Lib.hid ((rB.below hb3).more hb3.size)
        have HWR := Lib.hid hWR
        clear hb1 hb2 hb3 rB hWR
        go_loopw [2, 15, 16, 17, 18, 46] (fun v2 v15 _ _ _ v46 wr => ∃ (i y : Nat) (L : List Int), i ≤ m ∧ y ≤ 8 * s.size ∧ v46 = .int .i64 i ∧ v2 = .int .i64 y ∧ Owns wr w3.heap.size 1 v15 i (L.map (Value.int .i64)) ∧ Below w3.heap.size w3 wr ∧ Hid (crR l s a m = seqR l s (m - i) y L ∧ L.length = i)) (fun _ _ _ _ _ v46 _ => m - (intOf v46).toNat)
        case atStart => exact ⟨0, a, [], Nat.zero_le _, ha, rfl, rfl, Owns.nil _ _ _, Below.refl _ _, F.out, rfl⟩
        case round =>
          obtain ⟨i, y, L, hi, hy, rfl, rfl, hown, hb, HI⟩ := hrel
          obtain ⟨AO, cO, rfl⟩ := hown.form
          have hsz := hb.size
          have hBc := HRB.out.le
          by_cases hlt : i < m
          · have i1 := decide_eq_true (show (i : Int) < (m : Int) by omega)
            have HSUF : Hid (RowsIn wr wr.heap.size _ (8 * s.size - y) (cB - y) (fun z => [.int .i64 z]) 1 ((tbL s).drop y)) := ((HRB.out.below hb).more hsz).suf_opt hy
            have HSG := Lib.hid (sg_any l s y bw _ _ _ wr (HWR.out.keep hb) HSUF.out HE.out hy)
            obtain ⟨g, hg⟩ : ∃ g, m - i = g + 1 := ⟨m - i - 1, by omega⟩
            have HG := Lib.hid hg
            have HOW := Lib.hid hown
            have HBB := Lib.hid hb
            clear hg hown hb
            have j1 : (y : Int) ≤ ((8 * s.size : Nat) : Int) := by omega
            have j2 : (y : Int) ≤ (cB : Int) := by omega
            have j3 : y ≤ cB := by omega
            rcases one_ok l s y hy with ⟨x, k, he, hx, hk1, hk2⟩ | he | he
            · have HN : Hid (crR l s a m = seqR l s (m - (i + 1)) k (L ++ [(x : Int)]) ∧ (L ++ [(x : Int)]).length = i + 1) := ⟨by rw [HI.out.1, HG.out, seqR_on he, show m - (i + 1) = g by have := HG.out; omega], by rw [List.length_append, HI.out.2]; rfl⟩
              have HEE := Lib.hid he
              clear he
              go_wp2_with (first
                | (go_at_call 87; refine HSG.out.mono ?_; rintro e w' hP; obtain ⟨q2, k', rfl, rfl, hk'⟩ := sg_hit hP HEE.out; have HK := Lib.hid hk'; have hk3 : k' ≤ 8 * s.size := (by have := HK.out; omega); clear hP hk'; have HOW2 := Lib.hid (HOW.out.drewN q2); have HBB2 := Lib.hid (below_drewN HBB.out q2); generalize wr.drewN q2 = w5 at *; have hsz2 := HBB2.out.size)
                | (at_builtin; refine wpList_add1 rfl rfl Try.underlying32 info_i64c rfl (Nat.le_refl 1) HOW2.out rfl hsz2 rfl rfl rfl ?_ ?_ ?_ ?_; simp [Value.oneCell']; (unfold maxLen; omega); omega; intro A3 c3 w6 hown3 hl3 hbk3))
              have HO3 := Lib.hid hown3
              have HB6 := Lib.hid (hl3.below (Nat.le_refl _) HBB2.out)
              clear hown3 hl3 hbk3
              refine ⟨⟨i + 1, k, L ++ [(x : Int)], by omega, hk2, by go_num, ?_, ?_, HB6.out, HN.out⟩, ?_⟩
              · rw [HK.out]; go_num
              · rw [List.map_append]; exact HO3.out
              · simp [intOf]; omega
            · have HZ : Hid ((7 : Int) ≠ 0) := by simp only [Hid]; decide
              have FN : Hid (crR l s a m = (7, [], 0)) := by simp only [Hid]; rw [HI.out.1, HG.out, seqR_bad he (by decide)]
              have HEE := Lib.hid he
              clear he
              go_wp2_with (go_at_call 87; refine HSG.out.mono ?_; rintro e w' hP; obtain ⟨q2, rfl, rfl⟩ := sg_bad hP HEE.out HZ.out; clear hP)
              all_goals
                go_ret3
                exact crPost_no FN.out (below_drewN (HB3.out.trans (HBB.out.mono HB3.out.size)) _)
            · have HZ : Hid ((3 : Int) ≠ 0) := by simp only [Hid]; decide
              have FN : Hid (crR l s a m = (3, [], 0)) := by simp only [Hid]; rw [HI.out.1, HG.out, seqR_bad he (by decide)]
              have HEE := Lib.hid he
              clear he
              go_wp2_with (go_at_call 87; refine HSG.out.mono ?_; rintro e w' hP; obtain ⟨q2, rfl, rfl⟩ := sg_bad hP HEE.out HZ.out; clear hP)
              all_goals
                go_ret3
                exact crPost_no FN.out (below_drewN (HB3.out.trans (HBB.out.mono HB3.out.size)) _)
          · obtain rfl : i = m := by omega
            have i1 := decide_eq_false (show ¬ (i : Int) < (i : Int) by omega)
            have FE : Hid (crR l s a i = (0, L, (y : Int)) ∧ L.length = i) := ⟨by rw [HI.out.1, Nat.sub_self]; rfl, HI.out.2⟩
            have HOO : Hid (RowsIn wr wr.heap.size AO i cO (fun z => [.int .i64 z]) 1 L) := own_intsC hown
            have HBB := Lib.hid (HB3.out.trans (hb.mono HB3.out.size))
            clear hown hb
            go_wp2
            go_ret3
            exact ⟨AO, cO, by rw [FE.out.1, FE.out.2]; rfl, by rw [FE.out.1, FE.out.2]; exact HOO.out, HBB.out⟩
      · have d1 := decide_eq_false (show ¬ at_ < 0 by omega)
        have d2 := decide_eq_false (show ¬ 8 * (s.size : Int) < at_ by omega)
        have d3 := decide_eq_false (show ¬ m < 0 by omega)
        have d4 := decide_eq_true (show (1024 : Int) < m by omega)
        have F := Lib.hid (crR_large hE hA hM)
        clear hE hA hM r
        go_enter Try.func48, Try.ntmps48
        go_wp2_with (first
          | (go_at_call 85; refine H.out.mono ?_; rintro e w1 ⟨A1, n1, c1, rfl, r1, hb1⟩; clear r1)
          | (go_at_call 80; refine (HBITS.out w1).mono ?_; rintro e w2 ⟨AB, cB, rfl, rB, hb2⟩; clear rB))
        go_ret3
        exact crPost_no F.out (hb1.trans (hb2.mono hb1.size))
    · have F := Lib.hid (crR_arg hE hA)
      clear hE r
      by_cases d1 : at_ < 0
      · have d1 := decide_eq_true d1
        clear hA
        go_enter Try.func48, Try.ntmps48
        go_wp2_with (first
          | (go_at_call 85; refine H.out.mono ?_; rintro e w1 ⟨A1, n1, c1, rfl, r1, hb1⟩; clear r1)
          | (go_at_call 80; refine (HBITS.out w1).mono ?_; rintro e w2 ⟨AB, cB, rfl, rB, hb2⟩; clear rB))
        go_ret3
        exact crPost_no F.out (hb1.trans (hb2.mono hb1.size))
      · by_cases d2 : 8 * (s.size : Int) < at_
        · have d1 := decide_eq_false d1
          have d2 := decide_eq_true d2
          clear hA
          go_enter Try.func48, Try.ntmps48
          go_wp2_with (first
            | (go_at_call 85; refine H.out.mono ?_; rintro e w1 ⟨A1, n1, c1, rfl, r1, hb1⟩; clear r1)
            | (go_at_call 80; refine (HBITS.out w1).mono ?_; rintro e w2 ⟨AB, cB, rfl, rB, hb2⟩; clear rB))
          go_ret3
          exact crPost_no F.out (hb1.trans (hb2.mono hb1.size))
        · have d3 := decide_eq_true (show m < 0 by omega)
          have d1 := decide_eq_false d1
          have d2 := decide_eq_false d2
          clear hA
          go_enter Try.func48, Try.ntmps48
          go_wp2_with (first
            | (go_at_call 85; refine H.out.mono ?_; rintro e w1 ⟨A1, n1, c1, rfl, r1, hb1⟩; clear r1)
            | (go_at_call 80; refine (HBITS.out w1).mono ?_; rintro e w2 ⟨AB, cB, rfl, rB, hb2⟩; clear rB))
          go_ret3
          exact crPost_no F.out (hb1.trans (hb2.mono hb1.size))
  · have F := Lib.hid (crR_can (s := s) (at_ := at_) (n := m) hE)
    have hne : (canE l != 0) = true := bne_iff_ne.2 hE
    generalize canE l = ce at *
    clear hE
    go_enter Try.func48, Try.ntmps48
    go_wp2_with (go_at_call 85; refine H.out.mono ?_; rintro e w1 ⟨A1, n1, c1, rfl, r1, hb1⟩; clear r1)
    go_ret3
    exact crPost_no F.out hb1
end Go.Proofs.Ytnnmiolgffcgkaa
