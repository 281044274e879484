/- code.Read, walked. -/
import Derived.Test.YtnnmiolgffcgkaaOneW
namespace Go.Proofs.Ytnnmiolgffcgkaa
open Go.RowKit Go.PlainAid

/-- What code.Read answers. -/
def CrPost (l : List Int) (s : ByteArray) (at_ n : Int) (w : World) (e : Ending) (w' : World) : Prop := ∃ A c, e = .returned (.tuple #[.slice A (crR l s at_ n).2.1.length c, .int .i64 (crR l s at_ n).2.2, .int .i64 (crR l s at_ n).1]) ∧ RowsIn w' w'.heap.size A (crR l s at_ n).2.1.length c (fun z => [.int .i64 z]) 1 (crR l s at_ n).2.1 ∧ Below w.heap.size w w'
theorem crPost_no {l : List Int} {s : ByteArray} {at_ n x : Int} {w w' : World} (h : crR l s at_ n = (x, [], 0)) (hb : Below w.heap.size w w') : CrPost l s at_ n w (.returned (.tuple #[.slice none 0 0, .int .i64 0, .int .i64 x])) w' :=
  ⟨none, 0, by rw [h]; rfl, by rw [h]; exact no_intsC _ _, hb⟩
theorem crR_can {l : List Int} {s : ByteArray} {at_ n : Int} (h : canE l ≠ 0) : crR l s at_ n = (canE l, [], 0) := by unfold crR; rw [if_neg h]
theorem crR_arg {l : List Int} {s : ByteArray} {at_ n : Int} (h : canE l = 0) (h2 : ¬ (0 ≤ at_ ∧ at_ ≤ 8 * s.size ∧ 0 ≤ n)) : crR l s at_ n = (1, [], 0) := by unfold crR; rw [if_pos h, if_neg h2]
theorem crR_large {l : List Int} {s : ByteArray} {at_ n : Int} (h : canE l = 0) (h2 : 0 ≤ at_ ∧ at_ ≤ 8 * s.size ∧ 0 ≤ n) (h3 : ¬ n ≤ 1024) : crR l s at_ n = (2, [], 0) := by unfold crR; rw [if_pos h, if_pos h2, if_neg h3]
theorem crR_ok {l : List Int} {s : ByteArray} {a m : Nat} (h : canE l = 0) (h2 : a ≤ 8 * s.size) (h3 : m ≤ 1024) : crR l s a m = seqR l s m a [] := by
  unfold crR; rw [if_pos h, if_pos (by omega), if_pos (by omega), Int.toNat_natCast, Int.toNat_natCast]

theorem can_320 {l : List Int} (h : canE l = 0) : l.length ≤ 320 := by
  by_cases h2 : 320 < l.length
  · have h3 := (fill_large h2).2
    have h4 := (can_fill (l := l) (by rw [h3]; decide)).1
    rw [h3, h] at h4; exact absurd h4 (by decide)
  · omega

set_option maxRecDepth 20000 in
set_option maxHeartbeats 2000000 in
theorem crd_any (A : Option Addr) (n c : Nat) (l : List Int) (s : ByteArray) (at_ m : Int) (w : World) (r : RowsIn w w.heap.size A n c (fun z => [.int .i64 z]) 1 l) (hs : s.size ≤ 1048575) :
    Calls Try.prog 47 #[.slice A n c, .string s, .int .i64 at_, .int .i64 m] w (CrPost l s at_ m w) := by
  have hlen := r.len
  obtain rfl := hlen
  have H := Lib.hid (canon_any A l.length c l w r)
  by_cases hE : canE l = 0
  · rw [hE] at H
    by_cases hA : 0 ≤ at_ ∧ at_ ≤ 8 * (s.size : Int) ∧ 0 ≤ m
    · by_cases hM : m ≤ 1024
      · obtain ⟨hA1, hA2, hA3⟩ := hA
        obtain ⟨a, rfl⟩ := Int.eq_ofNat_of_zero_le hA1
        obtain ⟨m, rfl⟩ := Int.eq_ofNat_of_zero_le hA3
        have ha : a ≤ 8 * s.size := by omega
        have F := Lib.hid (crR_ok hE ha (by omega : m ≤ 1024))
        have hl320 := can_320 hE
        have HE := Lib.hid hE
        have R := Lib.hid r
        have hm : m ≤ 1024 := by omega
        have d1 := decide_eq_false (show ¬ (a : Int) < 0 by omega)
        have d2 := decide_eq_false (show ¬ 8 * (s.size : Int) < (a : Int) by omega)
        have d3 := decide_eq_false (show ¬ (m : Int) < 0 by omega)
        have d4 := decide_eq_false (show ¬ (1024 : Int) < (m : Int) by omega)
        clear hE r hA1 hA2 hA3 hM
        go_enter Try.func47, Try.ntmps47
        go_wp2_with (first
          | (go_at_call 82; refine H.out.mono ?_; rintro e w1 ⟨A1, n1, c1, rfl, r1, hb1⟩; clear r1)
          | (go_at_call 83; refine (bmake_any A l.length c l w1 ((R.out.below hb1).more hb1.size) HE.out hl320).mono ?_; rintro e w2 ⟨AM, cM, rfl, rM, hb2, _⟩; have hz2 := hb2.size; have hres := Lib.hid (heap_alloc_new w2 (.cells bookZ 118)); have hrM := Lib.hid rM; have hB2 := Lib.hid hb2; have hone : Hid ((bookA (.slice AM (sgL l 16).length cM) (bkF l 16) (bkG l 16) (bkC l)).all (·.oneCell') = true) := book_one _ _ _ _ AM _ cM rfl; have hinf : Hid ((Try.prog.info? 118).map (·.size) = some (bookA (.slice AM (sgL l 16).length cM) (bkF l 16) (bkG l 16) (bkC l)).size) := info_book; have hold : Hid (bookZ.size = (bookA (.slice AM (sgL l 16).length cM) (bkF l 16) (bkG l 16) (bkC l)).size) := rfl; clear rM hb2; generalize hBA : bookA (.slice AM (sgL l 16).length cM) (bkF l 16) (bkG l 16) (bkC l) = CS at hone hinf hold ⊢; have HBA := Lib.hid hBA; clear hBA)
          | (refine wpList_store_rowTo rfl _ _ _ rfl rfl w2.heap.size CS rfl rfl 118 bookZ hres.out hinf.out hold.out hone.out ?_))
        obtain ⟨w3, hw3⟩ : ∃ w3 : World, w3 = (w2.alloc (.cells bookZ 118)).setRow w2.heap.size CS := ⟨_, rfl⟩
        have HROW : Hid (w3.heap[w2.heap.size]? = some (.cells (bookA (.slice AM (sgL l 16).length cM) (bkF l 16) (bkG l 16) (bkC l)) 118 (0, 0))) := by simp only [Hid]; rw [hw3, HBA.out]; exact row_set hres.out
        have hz3 : w2.heap.size + 1 ≤ w3.heap.size := by rw [hw3]; simp [World.setRow]
        have hb3 : Below w2.heap.size w2 w3 := by rw [hw3]; exact below_setRow ((Below.refl _ _).alloc (Nat.le_refl _) _) (Nat.le_refl _) _
        have HRM := Lib.hid ((hrM.out.below hb3).more hb3.size)
        have HB3 := Lib.hid (hb1.trans ((hB2.out.mono hb1.size).trans (hb3.mono (Nat.le_trans hb1.size hz2))))
        simp only [bookZ, bookA] at hw3
        rw [← hw3]
        clear hw3 hres hone hinf hold hrM hB2 HBA hb3 hb1
        go_loopw [2, 14, 15, 16, 17, 44] (fun v2 v14 _ _ _ v44 wr => ∃ (i y : Nat) (L : List Int), i ≤ m ∧ y ≤ 8 * s.size ∧ v44 = .int .i64 i ∧ v2 = .int .i64 y ∧ Owns wr w3.heap.size 1 v14 i (L.map (Value.int .i64)) ∧ Below w3.heap.size w3 wr ∧ Hid (crR l s a m = seqR l s (m - i) y L ∧ L.length = i)) (fun _ _ _ _ _ v44 _ => m - (intOf v44).toNat)
        case atStart => exact ⟨0, a, [], Nat.zero_le _, ha, rfl, rfl, Owns.nil _ _ _, Below.refl _ _, F.out, rfl⟩
        case round =>
          obtain ⟨i, y, L, hi, hy, rfl, rfl, hown, hb, HI⟩ := hrel
          obtain ⟨AO, cO, rfl⟩ := hown.form
          have hsz := hb.size
          by_cases hlt : i < m
          · have i1 := decide_eq_true (show (i : Int) < (m : Int) by omega)
            have HONE := Lib.hid (one_any l s y AM cM w2.heap.size wr ((hb.block _ (by omega)).trans HROW.out) ((HRM.out.below hb).more hsz) HE.out hl320 hy hs)
            obtain ⟨g, hg⟩ : ∃ g, m - i = g + 1 := ⟨m - i - 1, by omega⟩
            rcases one_ok l s y hy with ⟨x, k, he, hx, hk1, hk2⟩ | he | he
            · have HN : Hid (crR l s a m = seqR l s (m - (i + 1)) k (L ++ [(x : Int)]) ∧ (L ++ [(x : Int)]).length = i + 1) := ⟨by rw [HI.out.1, hg, seqR_on he, show m - (i + 1) = g by omega], by rw [List.length_append, HI.out.2]; rfl⟩
              rw [he] at HONE
              have HOW := Lib.hid hown
              have HBB := Lib.hid hb
              clear he hg hown hb
              go_wp2_with (first
                | (go_at_call 84; refine HONE.out.mono ?_; rintro e w' ⟨q2, rfl, rfl⟩; have HOW2 := Lib.hid (HOW.out.drewN q2); have HBB2 := Lib.hid (below_drewN HBB.out q2); generalize wr.drewN q2 = w5 at *; have hsz2 := HBB2.out.size)
                | (at_builtin; refine wpList_add1 rfl rfl Try.underlying32 info_i64c rfl (Nat.le_refl 1) HOW2.out rfl hsz2 rfl rfl rfl ?_ ?_ ?_ ?_; simp [Value.oneCell']; (unfold maxLen; omega); omega; intro A3 c3 w6 hown3 hl3 hbk3))
              have HO3 := Lib.hid hown3
              have HB6 := Lib.hid (hl3.below (Nat.le_refl _) HBB2.out)
              clear hown3 hl3 hbk3
              refine ⟨⟨i + 1, k, L ++ [(x : Int)], by omega, hk2, by go_num, rfl, ?_, HB6.out, HN.out⟩, ?_⟩
              · rw [List.map_append]; exact HO3.out
              · simp [intOf]; omega
            · have FN : Hid (crR l s a m = (7, [], 0)) := by simp only [Hid]; rw [HI.out.1, hg, seqR_bad he (by decide)]
              rw [he] at HONE
              have HBB := Lib.hid hb
              clear he hg hown hb
              go_wp2_with (go_at_call 84; refine HONE.out.mono ?_; rintro e w' ⟨q2, rfl, rfl⟩)
              go_ret3
              exact crPost_no FN.out (below_drewN (HB3.out.trans (HBB.out.mono HB3.out.size)) _)
            · have FN : Hid (crR l s a m = (3, [], 0)) := by simp only [Hid]; rw [HI.out.1, hg, seqR_bad he (by decide)]
              rw [he] at HONE
              have HBB := Lib.hid hb
              clear he hg hown hb
              go_wp2_with (go_at_call 84; refine HONE.out.mono ?_; rintro e w' ⟨q2, rfl, rfl⟩)
              go_ret3
              exact crPost_no FN.out (below_drewN (HB3.out.trans (HBB.out.mono HB3.out.size)) _)
          · obtain rfl : i = m := by omega
            have i1 := decide_eq_false (show ¬ (i : Int) < (i : Int) by omega)
            have FE : Hid (crR l s a i = (0, L, (y : Int)) ∧ L.length = i) := ⟨by rw [HI.out.1, Nat.sub_self]; rfl, HI.out.2⟩
            have HOO : Hid (RowsIn wr wr.heap.size AO i cO (fun z => [.int .i64 z]) 1 L) := own_intsC hown
            have HBB := Lib.hid (HB3.out.trans (hb.mono HB3.out.size))
            clear hown hb
            go_wp2
            go_ret3
            exact ⟨AO, cO, by rw [FE.out.1, FE.out.2]; rfl, by rw [FE.out.1, FE.out.2]; exact HOO.out, HBB.out⟩
      · have d1 := decide_eq_false (show ¬ at_ < 0 by omega)
        have d2 := decide_eq_false (show ¬ 8 * (s.size : Int) < at_ by omega)
        have d3 := decide_eq_false (show ¬ m < 0 by omega)
        have d4 := decide_eq_true (show (1024 : Int) < m by omega)
        have F := Lib.hid (crR_large hE hA hM)
        clear hE hA hM r
        go_enter Try.func47, Try.ntmps47
        go_wp2_with (go_at_call 82; refine H.out.mono ?_; rintro e w1 ⟨A1, n1, c1, rfl, r1, hb1⟩; clear r1)
        go_ret3
        exact crPost_no F.out hb1
    · have F := Lib.hid (crR_arg hE hA)
      clear hE r
      by_cases d1 : at_ < 0
      · have d1 := decide_eq_true d1
        clear hA
        go_enter Try.func47, Try.ntmps47
        go_wp2_with (go_at_call 82; refine H.out.mono ?_; rintro e w1 ⟨A1, n1, c1, rfl, r1, hb1⟩; clear r1)
        go_ret3
        exact crPost_no F.out hb1
      · by_cases d2 : 8 * (s.size : Int) < at_
        · have d1 := decide_eq_false d1
          have d2 := decide_eq_true d2
          clear hA
          go_enter Try.func47, Try.ntmps47
          go_wp2_with (go_at_call 82; refine H.out.mono ?_; rintro e w1 ⟨A1, n1, c1, rfl, r1, hb1⟩; clear r1)
          go_ret3
          exact crPost_no F.out hb1
        · have d3 := decide_eq_true (show m < 0 by omega)
          have d1 := decide_eq_false d1
          have d2 := decide_eq_false d2
          clear hA
          go_enter Try.func47, Try.ntmps47
          go_wp2_with (go_at_call 82; refine H.out.mono ?_; rintro e w1 ⟨A1, n1, c1, rfl, r1, hb1⟩; clear r1)
          go_ret3
          exact crPost_no F.out hb1
  · have F := Lib.hid (crR_can (s := s) (at_ := at_) (n := m) hE)
    have hne : (canE l != 0) = true := bne_iff_ne.2 hE
    generalize canE l = ce at *
    clear hE
    go_enter Try.func47, Try.ntmps47
    go_wp2_with (go_at_call 82; refine H.out.mono ?_; rintro e w1 ⟨A1, n1, c1, rfl, r1, hb1⟩; clear r1)
    go_ret3
    exact crPost_no F.out hb1
end Go.Proofs.Ytnnmiolgffcgkaa
