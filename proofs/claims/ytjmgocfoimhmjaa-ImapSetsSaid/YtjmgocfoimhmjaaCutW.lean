/- imap.Cut, walked. -/
import Derived.Test.YtjmgocfoimhmjaaCutF
namespace Go.Proofs.Ytjmgocfoimhmjaa
open Go.RowKit

set_option maxRecDepth 20000 in
set_option maxHeartbeats 2000000 in
theorem cut_any (A : Option Addr) (n c : Nat) (xs : List PlaceD) (A' : Option Addr) (n' c' : Nat) (gs : List Int) (m : Int) (w : World) (r : RowsIn w w.heap.size A n c PlaceD.cells 2 xs) (r' : RowsIn w w.heap.size A' n' c' (fun z => [.int .i64 z]) 1 gs) :
    Calls Try.prog 16 #[.agg #[.slice A n c, .slice A' n' c'], .int .i64 m] w (IpPost (cutE xs gs m) (cutX xs gs m) (cutG xs gs m) w) := by
  obtain ⟨wa, hwa⟩ : ∃ wa, wa = (w.alloc (.cells #[.slice A n c, .slice A' n' c'] 25)).alloc (.cells zeroImap 25) := ⟨_, rfl⟩
  have hza : wa.heap.size = w.heap.size + 2 := by rw [hwa]; simp
  have hba : Below w.heap.size w wa := by rw [hwa]; exact ((Below.refl _ _).alloc (Nat.le_refl _) _).alloc (by simp) _
  have hra : wa.heap[w.heap.size + 1]? = some (.cells zeroImap 25 (0, 0)) := by
    rw [hwa]
    have := heap_alloc_new (w.alloc (.cells #[.slice A n c, .slice A' n' c'] 25)) (.cells zeroImap 25)
    rw [show (w.alloc (.cells #[.slice A n c, .slice A' n' c'] 25)).heap.size = w.heap.size + 1 by simp] at this
    exact this
  have hrb : wa.heap[w.heap.size]? = some (.cells #[.slice A n c, .slice A' n' c'] 25 (0, 0)) := by
    rw [hwa]; exact (heap_alloc_old _ _ (by simp)).trans (heap_alloc_new w _)
  have ra := (r.below hba).more (show w.heap.size ≤ wa.heap.size by omega)
  have ra' := (r'.below hba).more (show w.heap.size ≤ wa.heap.size by omega)
  have HC := Lib.hid (imapc_any A n c xs A' n' c' gs wa ra ra')
  have hone0 : Hid ((zeroImap : Array Value).all (·.oneCell') = true) := by simp [Hid, Value.oneCell']
  have HRA := Lib.hid hra
  have HRB := Lib.hid hrb
  have HWA := Lib.hid hwa
  have HBA := Lib.hid hba
  have HZA := Lib.hid hza
  have RA := Lib.hid ra
  have RA' := Lib.hid ra'
  have R := Lib.hid r
  have R' := Lib.hid r'
  by_cases hk : ImapOk xs gs
  · have hE := impE_ok hk
    have hlen := r.len
    have hlen' := r'.len
    rw [hk.1] at hlen
    rw [hk.2.1] at hlen'
    subst hlen
    subst hlen'
    have HK := Lib.hid hk
    have HX := Lib.hid hk.1
    have HY := Lib.hid hk.2.1
    rw [hE] at HC
    have HE := Lib.hid hE
    clear r r' ra ra' hwa hza hba hra hrb hk hE
    by_cases hm : m < 0 ∨ 48 ≤ m
    · have F := Lib.hid (cut_arg HE.out hm)
      have F2 := Lib.hid (cut_bad F.out (by decide))
      rcases (show m < 0 ∨ (0 ≤ m ∧ 48 ≤ m) by omega) with h | ⟨h, h'⟩ <;> clear hm
      all_goals
        go_enter Try.func16, Try.ntmps16
        go_wp2_with (first
          | (go_at_call 56; rw [← HWA.out]; refine HC.out.mono ?_; rintro e w1 ⟨rfl, hb1⟩; have hrb1 := row_below HRB.out (row_lt HRB.out) hb1; have q0 : w1.cell? ⟨w.heap.size, 0, none⟩ = some (.slice A 48 c) := row_cell hrb1 0; have HRA1 := Lib.hid (row_below HRA.out (row_lt HRA.out) hb1); have HB1 := Lib.hid hb1; clear hrb1 hb1)
          | (refine wpList_store_rowTo rfl _ _ _ rfl rfl (w.heap.size + 1) zeroImap rfl rfl 25 zeroImap HRA1.out info_imap rfl hone0.out ?_))
        refine bodyPost_ret (results_cell_tmp_row rfl _ _ (w.heap.size + 1) _ zeroImap (0, 0) _ rfl (row_set HRA1.out) Try.underlying25 rfl info_imap) rfl ?_
        exact ipPost_bad F.out F2.out (below_setRow (HBA.out.trans (HB1.out.mono HBA.out.size)) (by omega) _)
    · obtain ⟨k, rfl⟩ : ∃ k : Nat, m = k := ⟨m.toNat, by omega⟩
      have hk48 : k < 48 := by omega
      have i1 : (k : Int) < 48 := by omega
      obtain ⟨pc, pn, e1⟩ : ∃ pc pn, xs[k]? = some (⟨pc, pn⟩ : PlaceD) := get48 HX.out hk48
      obtain ⟨g, e2, gb0, gb1⟩ := getg HK.out hk48
      have E1 := Lib.hid e1
      have E2 := Lib.hid e2
      obtain ⟨b, o, rfl, hbB, hc⟩ := RA.out.at_ k _ e1
      obtain ⟨b', o', rfl, hbB', hc'⟩ := RA'.out.one e2
      have hp0 : wa.cell? ⟨b, o + k * 2, none⟩ = some (.int .i64 pc) := by simpa using hc 0 _ rfl
      have HP0 := Lib.hid hp0
      have HP1 := Lib.hid hc'
      clear hc hp0 hc' e1 e2 hm
      by_cases h0 : pc = 0
      · subst h0
        have F := Lib.hid (cut_none HE.out hk48 E1.out rfl)
        have F2 := Lib.hid (cut_bad F.out (by decide))
        go_enter Try.func16, Try.ntmps16
        go_wp2_with (first
          | (go_at_call 56; rw [← HWA.out]; refine HC.out.mono ?_; rintro e w1 ⟨rfl, hb1⟩; have hrb1 := row_below HRB.out (row_lt HRB.out) hb1; have q0 : w1.cell? ⟨w.heap.size, 0, none⟩ = some (.slice (some ⟨b, o, none⟩) 48 c) := row_cell hrb1 0; have q2 := (hb1.cell (p := ⟨b, o + k * 2, none⟩) hbB).trans HP0.out; have HRA1 := Lib.hid (row_below HRA.out (row_lt HRA.out) hb1); have HB1 := Lib.hid hb1; clear hrb1 hb1)
          | (refine wpList_store_rowTo rfl _ _ _ rfl rfl (w.heap.size + 1) zeroImap rfl rfl 25 zeroImap HRA1.out info_imap rfl hone0.out ?_))
        refine bodyPost_ret (results_cell_tmp_row rfl _ _ (w.heap.size + 1) _ zeroImap (0, 0) _ rfl (row_set HRA1.out) Try.underlying25 rfl info_imap) rfl ?_
        exact ipPost_bad F.out F2.out (below_setRow (HBA.out.trans (HB1.out.mono HBA.out.size)) (by omega) _)
      · have g0 : (pc == 0) = false := beq_eq_false_iff_ne.2 h0
        by_cases hg : g = 2147483647
        · subst hg
          have F := Lib.hid (cut_many HE.out hk48 E1.out h0 E2.out rfl)
          have F2 := Lib.hid (cut_bad F.out (by decide))
          clear h0
          go_enter Try.func16, Try.ntmps16
          go_wp2_with (first
            | (go_at_call 56; rw [← HWA.out]; refine HC.out.mono ?_; rintro e w1 ⟨rfl, hb1⟩; have hrb1 := row_below HRB.out (row_lt HRB.out) hb1; have q0 : w1.cell? ⟨w.heap.size, 0, none⟩ = some (.slice (some ⟨b, o, none⟩) 48 c) := row_cell hrb1 0; have q1 : w1.cell? ⟨w.heap.size, 1, none⟩ = some (.slice (some ⟨b', o', none⟩) 48 c') := row_cell hrb1 1; have q2 := (hb1.cell (p := ⟨b, o + k * 2, none⟩) hbB).trans HP0.out; have q3 := (hb1.cell (p := ⟨b', o' + k, none⟩) hbB').trans HP1.out; have HRA1 := Lib.hid (row_below HRA.out (row_lt HRA.out) hb1); have HB1 := Lib.hid hb1; clear hrb1 hb1)
            | (refine wpList_store_rowTo rfl _ _ _ rfl rfl (w.heap.size + 1) zeroImap rfl rfl 25 zeroImap HRA1.out info_imap rfl hone0.out ?_))
          refine bodyPost_ret (results_cell_tmp_row rfl _ _ (w.heap.size + 1) _ zeroImap (0, 0) _ rfl (row_set HRA1.out) Try.underlying25 rfl info_imap) rfl ?_
          exact ipPost_bad F.out F2.out (below_setRow (HBA.out.trans (HB1.out.mono HBA.out.size)) (by omega) _)
        · have gg : (g == 2147483647) = false := beq_eq_false_iff_ne.2 hg
          have F := Lib.hid (cut_ok HE.out hk48 E1.out h0 E2.out hg)
          have gb2 : g ≤ 2147483646 := by omega
          have HLK : Hid (∀ W, Below wa.heap.size wa W → Calls Try.prog 58 #[.agg #[.slice (some ⟨b, o, none⟩) 48 c, .slice (some ⟨b', o', none⟩) 48 c']] W (LkPost xs gs W)) := fun W h => like_any _ c xs _ c' gs W ((RA.out.below h).more h.size) ((RA'.out.below h).more h.size)
          unfold LkPost at HLK
          have hone : Hid (∀ (A A' : Option Addr) (n c n' c' : Nat), ((#[.slice A n c, .slice A' n' c'] : Array Value).all (·.oneCell')) = true) := fun _ _ _ _ _ _ => by simp [Value.oneCell']
          clear h0 hg
          go_enter Try.func16, Try.ntmps16
          go_wp2_with (first
            | (go_at_call 56; rw [← HWA.out]; refine HC.out.mono ?_; rintro e w1 ⟨rfl, hb1⟩; have hrb1 := row_below HRB.out (row_lt HRB.out) hb1; have q0 : w1.cell? ⟨w.heap.size, 0, none⟩ = some (.slice (some ⟨b, o, none⟩) 48 c) := row_cell hrb1 0; have q1 : w1.cell? ⟨w.heap.size, 1, none⟩ = some (.slice (some ⟨b', o', none⟩) 48 c') := row_cell hrb1 1; have q2 := (hb1.cell (p := ⟨b, o + k * 2, none⟩) hbB).trans HP0.out; have q3 := (hb1.cell (p := ⟨b', o' + k, none⟩) hbB').trans HP1.out; have HRA1 := Lib.hid (row_below HRA.out (row_lt HRA.out) hb1); have HB1 := Lib.hid hb1; clear hrb1 hb1)
            | (refine wpList_store_rowTo rfl _ _ _ rfl rfl (w.heap.size + 1) #[.slice (some ⟨g1, off1, none⟩) 48 d, .slice (some ⟨g2, off2, none⟩) 48 d'] rfl rfl 25 zeroImap l2 info_imap rfl (hone.out _ _ _ _ _ _) ?_)
            | (go_at_call 58; refine (HLK.out _ HB1.out).mono ?_; rintro e w2 ⟨D, d, D', d', rfl, o1, o2, ap, hb2⟩; have OO1 := Lib.hid o1; have OO2 := Lib.hid o2; have AP := Lib.hid ap; have HB2 := Lib.hid hb2; clear o1 o2 ap hb2)
            | (refine wpList_store_rowTo rfl _ _ _ rfl rfl w2.heap.size #[.slice D 48 d, .slice D' 48 d'] rfl rfl 25 zeroImap (heap_alloc_new w2 _) info_imap rfl (hone.out D D' 48 d 48 d') ?_; obtain ⟨w3, hw3⟩ : ∃ w3, (w2.alloc (.cells zeroImap 25)).setRow w2.heap.size #[.slice D 48 d, .slice D' 48 d'] = w3 := ⟨_, rfl⟩; rw [hw3]; have HW3 := Lib.hid hw3; clear hw3; obtain ⟨g1, off1, rfl, h11, h12⟩ := own_some OO1.out (by omega); obtain ⟨g2, off2, rfl, h21, h22⟩ := own_some OO2.out (by omega); have X3 := Lib.hid (cut_facts (E1 := E1.out) (E2 := E2.out) OO1.out OO2.out AP.out HW3.out HRA1.out (by have := HZA.out; have := HB1.out.size; omega) HB2.out); obtain ⟨m0, m1, c1, f1, c2, f2, c3, f3, n2, l0, l1, l2, r0, r1⟩ := X3.out.1))
          refine bodyPost_ret (results_cell_tmp_row rfl _ _ (w.heap.size + 1) _ #[.slice (some ⟨g1, off1, none⟩) 48 d, .slice (some ⟨g2, off2, none⟩) 48 d'] (0, 0) _ rfl (row_set l2) Try.underlying25 rfl info_imap) rfl ?_
          have hz : w.heap.size + 1 < w1.heap.size := by have := HZA.out; have := HB1.out.size; omega
          exact ipPost_ok F.out.1 F.out.2.1 F.out.2.2 ((X3.out.2.1.setRow hz _).rows place_two2 (by omega)) (own_intsI (X3.out.2.2.1.setRow hz _)) (below_setRow ((HBA.out.trans (HB1.out.mono HBA.out.size)).trans (X3.out.2.2.2.mono (by omega))) (by omega) _)
  · have F := Lib.hid (cut_form (n := m) (by rw [impE_no hk]; decide))
    have F2 := Lib.hid (cut_bad F.out (by decide))
    rw [impE_no hk] at HC
    clear r r' ra ra' hwa hza hba hra hrb hk
    go_enter Try.func16, Try.ntmps16
    go_wp2_with (first
      | (go_at_call 56; rw [← HWA.out]; refine HC.out.mono ?_; rintro e w1 ⟨rfl, hb1⟩; have HRA1 := Lib.hid (row_below HRA.out (row_lt HRA.out) hb1); have HB1 := Lib.hid hb1; clear hb1)
      | (refine wpList_store_rowTo rfl _ _ _ rfl rfl (w.heap.size + 1) zeroImap rfl rfl 25 zeroImap HRA1.out info_imap rfl hone0.out ?_))
    refine bodyPost_ret (results_cell_tmp_row rfl _ _ (w.heap.size + 1) _ zeroImap (0, 0) _ rfl (row_set HRA1.out) Try.underlying25 rfl info_imap) rfl ?_
    exact ipPost_bad F.out F2.out (below_setRow (HBA.out.trans (HB1.out.mono HBA.out.size)) (by omega) _)
end Go.Proofs.Ytjmgocfoimhmjaa
