/- imap.Set, walked. -/
import Derived.Test.YtjmgocfoimhmjaaSetF
import Derived.Test.YtjmgocfoimhmjaaRightW
namespace Go.Proofs.Ytjmgocfoimhmjaa
open Go.RowKit

theorem on_b {W W' : World} {p : Addr} {v : Value} (h : W.cell? p = some v) (hp : p.block < W.heap.size) (hb : Below W.heap.size W W') : W'.cell? p = some v := (hb.cell (p := p) hp).trans h

set_option maxRecDepth 20000 in
set_option maxHeartbeats 2000000 in
theorem set_any (A : Option Addr) (n c : Nat) (xs : List PlaceD) (A' : Option Addr) (n' c' : Nat) (gs : List Int) (m x y : Int) (w : World) (r : RowsIn w w.heap.size A n c PlaceD.cells 2 xs) (r' : RowsIn w w.heap.size A' n' c' (fun z => [.int .i64 z]) 1 gs) :
    Calls Try.prog 15 #[.agg #[.slice A n c, .slice A' n' c'], .int .i64 m, .agg #[.int .i64 x, .int .i64 y]] w (IpPost (setE xs gs m ⟨x, y⟩) (setX xs gs m ⟨x, y⟩) (setG xs gs m ⟨x, y⟩) w) := by
  obtain ⟨wa, hwa⟩ : ∃ wa, wa = ((w.alloc (.cells #[.slice A n c, .slice A' n' c'] 25)).alloc (.cells #[.int .i64 x, .int .i64 y] 27)).alloc (.cells zeroImap 25) := ⟨_, rfl⟩
  have hza : wa.heap.size = w.heap.size + 3 := by rw [hwa]; simp
  have hba : Below w.heap.size w wa := by rw [hwa]; exact (((Below.refl _ _).alloc (Nat.le_refl _) _).alloc (by simp) _).alloc (by simp; omega) _
  have hra : wa.heap[w.heap.size + 1 + 1]? = some (.cells zeroImap 25 (0, 0)) := by
    rw [hwa]
    have := heap_alloc_new ((w.alloc (.cells #[.slice A n c, .slice A' n' c'] 25)).alloc (.cells #[.int .i64 x, .int .i64 y] 27)) (.cells zeroImap 25)
    rw [show ((w.alloc (.cells #[.slice A n c, .slice A' n' c'] 25)).alloc (.cells #[.int .i64 x, .int .i64 y] 27)).heap.size = w.heap.size + 1 + 1 by simp] at this
    exact this
  have hrp : wa.heap[w.heap.size + 1]? = some (.cells #[.int .i64 x, .int .i64 y] 27 (0, 0)) := by
    rw [hwa]
    have := heap_alloc_new (w.alloc (.cells #[.slice A n c, .slice A' n' c'] 25)) (.cells #[.int .i64 x, .int .i64 y] 27)
    rw [show (w.alloc (.cells #[.slice A n c, .slice A' n' c'] 25)).heap.size = w.heap.size + 1 by simp] at this
    exact (heap_alloc_old _ _ (by simp)).trans this
  have hrb : wa.heap[w.heap.size]? = some (.cells #[.slice A n c, .slice A' n' c'] 25 (0, 0)) := by
    rw [hwa]; exact (heap_alloc_old _ _ (by simp; omega)).trans ((heap_alloc_old _ _ (by simp)).trans (heap_alloc_new w _))
  have ra := (r.below hba).more (show w.heap.size ≤ wa.heap.size by omega)
  have ra' := (r'.below hba).more (show w.heap.size ≤ wa.heap.size by omega)
  have HC := Lib.hid (imapc_any A n c xs A' n' c' gs wa ra ra')
  have HRI := Lib.hid (right_any x y)
  have hone0 : Hid ((zeroImap : Array Value).all (·.oneCell') = true) := by simp [Hid, Value.oneCell']
  have HRA := Lib.hid hra
  have HRB := Lib.hid hrb
  have HRP := Lib.hid hrp
  have HWA := Lib.hid hwa
  have HBA := Lib.hid hba
  have HZA := Lib.hid hza
  have RA := Lib.hid ra
  have RA' := Lib.hid ra'
  by_cases hk : ImapOk xs gs
  · have hE := impE_ok hk
    have hlen := r.len
    have hlen' := r'.len
    rw [hk.1] at hlen
    rw [hk.2.1] at hlen'
    subst hlen
    subst hlen'
    have HX := Lib.hid hk.1
    rw [hE] at HC
    have HE := Lib.hid hE
    clear r r' ra ra' hwa hza hba hra hrb hrp hk hE
    by_cases hm : m < 0 ∨ 48 ≤ m
    · have F := Lib.hid (set_arg (n := m) (p := ⟨x, y⟩) HE.out (by rcases hm with h | h; exact .inl h; exact .inr (.inl h)))
      have F2 := Lib.hid (set_bad F.out (by decide))
      rcases (show m < 0 ∨ (0 ≤ m ∧ 48 ≤ m) by omega) with h | ⟨h, h'⟩ <;> clear hm
      all_goals
        go_enter Try.func15, Try.ntmps15
        go_wp2_with (first
          | (go_at_call 56; rw [← HWA.out]; refine HC.out.mono ?_; rintro e w1 ⟨rfl, hb1⟩; have hrb1 := row_below HRB.out (row_lt HRB.out) hb1; have hrp1 := row_below HRP.out (row_lt HRP.out) hb1; have q0 : w1.cell? ⟨w.heap.size, 0, none⟩ = some (.slice A 48 c) := row_cell hrb1 0; have q1 : w1.cell? ⟨w.heap.size, 1, none⟩ = some (.slice A' 48 c') := row_cell hrb1 1; have u0 : w1.cell? ⟨w.heap.size + 1, 0, none⟩ = some (.int .i64 x) := row_cell hrp1 0; have u1 : w1.cell? ⟨w.heap.size + 1, 1, none⟩ = some (.int .i64 y) := row_cell hrp1 1; have q8 := row_lt hrb1; have u8 := row_lt hrp1; have HRA1 := Lib.hid (row_below HRA.out (row_lt HRA.out) hb1); have HB1 := Lib.hid hb1; clear hrb1 hrp1 hb1)
          | (refine wpList_store_rowTo rfl _ _ _ rfl rfl (w.heap.size + 1 + 1) zeroImap rfl rfl 25 zeroImap HRA1.out info_imap rfl hone0.out ?_))
        refine bodyPost_ret (results_cell_tmp_row rfl _ _ (w.heap.size + 1 + 1) _ zeroImap (0, 0) _ rfl (row_set HRA1.out) Try.underlying25 rfl info_imap) rfl ?_
        exact ipPost_bad F.out F2.out (below_setRow (HBA.out.trans (HB1.out.mono HBA.out.size)) (by omega) _)
    · obtain ⟨k, rfl⟩ : ∃ k : Nat, m = k := ⟨m.toNat, by omega⟩
      have hk48 : k < 48 := by omega
      have i1 : (k : Int) < 48 := by omega
      clear hm
      by_cases hr : rightB x y = false ∨ x = 0
      · have F := Lib.hid (set_arg (n := (k : Int)) (p := ⟨x, y⟩) HE.out (by rcases hr with h | h; exact .inr (.inr (.inl h)); exact .inr (.inr (.inr h))))
        have F2 := Lib.hid (set_bad F.out (by decide))
        generalize hrr : rightB x y = rb at *
        clear hrr
        cases rb
        · clear hr
          go_enter Try.func15, Try.ntmps15
          go_wp2_with (first
            | (go_at_call 56; rw [← HWA.out]; refine HC.out.mono ?_; rintro e w1 ⟨rfl, hb1⟩; have hrb1 := row_below HRB.out (row_lt HRB.out) hb1; have hrp1 := row_below HRP.out (row_lt HRP.out) hb1; have q0 : w1.cell? ⟨w.heap.size, 0, none⟩ = some (.slice A 48 c) := row_cell hrb1 0; have q1 : w1.cell? ⟨w.heap.size, 1, none⟩ = some (.slice A' 48 c') := row_cell hrb1 1; have u0 : w1.cell? ⟨w.heap.size + 1, 0, none⟩ = some (.int .i64 x) := row_cell hrp1 0; have u1 : w1.cell? ⟨w.heap.size + 1, 1, none⟩ = some (.int .i64 y) := row_cell hrp1 1; have q8 := row_lt hrb1; have u8 := row_lt hrp1; have HRA1 := Lib.hid (row_below HRA.out (row_lt HRA.out) hb1); have HB1 := Lib.hid hb1; clear hrb1 hrp1 hb1)
            | (go_at_call 57; refine (HRI.out _).mono ?_; rintro e w2 ⟨rfl, hw2⟩; have hb2 : Below w1.heap.size w1 w2 := (by rw [← hw2]; exact (Below.refl _ _).alloc (Nat.le_refl _) _); have HRA2 := Lib.hid (row_below HRA1.out (row_lt HRA1.out) hb2); have q0 := on_b q0 q8 hb2; have q1 := on_b q1 q8 hb2; have u0 := on_b u0 u8 hb2; have u1 := on_b u1 u8 hb2; have q8 := Nat.lt_of_lt_of_le q8 hb2.size; have u8 := Nat.lt_of_lt_of_le u8 hb2.size; have HB2 := Lib.hid (HB1.out.trans (hb2.mono HB1.out.size)); clear hw2 hb2)
            | (refine wpList_store_rowTo rfl _ _ _ rfl rfl (w.heap.size + 1 + 1) zeroImap rfl rfl 25 zeroImap HRA2.out info_imap rfl hone0.out ?_))
          refine bodyPost_ret (results_cell_tmp_row rfl _ _ (w.heap.size + 1 + 1) _ zeroImap (0, 0) _ rfl (row_set HRA2.out) Try.underlying25 rfl info_imap) rfl ?_
          exact ipPost_bad F.out F2.out (below_setRow (HBA.out.trans (HB2.out.mono HBA.out.size)) (by omega) _)
        · have hx0 : x = 0 := by rcases hr with h | h; cases h; exact h
          subst hx0
          clear hr
          go_enter Try.func15, Try.ntmps15
          go_wp2_with (first
            | (go_at_call 56; rw [← HWA.out]; refine HC.out.mono ?_; rintro e w1 ⟨rfl, hb1⟩; have hrb1 := row_below HRB.out (row_lt HRB.out) hb1; have hrp1 := row_below HRP.out (row_lt HRP.out) hb1; have q0 : w1.cell? ⟨w.heap.size, 0, none⟩ = some (.slice A 48 c) := row_cell hrb1 0; have q1 : w1.cell? ⟨w.heap.size, 1, none⟩ = some (.slice A' 48 c') := row_cell hrb1 1; have u0 : w1.cell? ⟨w.heap.size + 1, 0, none⟩ = some (.int .i64 0) := row_cell hrp1 0; have u1 : w1.cell? ⟨w.heap.size + 1, 1, none⟩ = some (.int .i64 y) := row_cell hrp1 1; have q8 := row_lt hrb1; have u8 := row_lt hrp1; have HRA1 := Lib.hid (row_below HRA.out (row_lt HRA.out) hb1); have HB1 := Lib.hid hb1; clear hrb1 hrp1 hb1)
            | (go_at_call 57; refine (HRI.out _).mono ?_; rintro e w2 ⟨rfl, hw2⟩; have hb2 : Below w1.heap.size w1 w2 := (by rw [← hw2]; exact (Below.refl _ _).alloc (Nat.le_refl _) _); have HRA2 := Lib.hid (row_below HRA1.out (row_lt HRA1.out) hb2); have q0 := on_b q0 q8 hb2; have q1 := on_b q1 q8 hb2; have u0 := on_b u0 u8 hb2; have u1 := on_b u1 u8 hb2; have q8 := Nat.lt_of_lt_of_le q8 hb2.size; have u8 := Nat.lt_of_lt_of_le u8 hb2.size; have HB2 := Lib.hid (HB1.out.trans (hb2.mono HB1.out.size)); clear hw2 hb2)
            | (refine wpList_store_rowTo rfl _ _ _ rfl rfl (w.heap.size + 1 + 1) zeroImap rfl rfl 25 zeroImap HRA2.out info_imap rfl hone0.out ?_))
          refine bodyPost_ret (results_cell_tmp_row rfl _ _ (w.heap.size + 1 + 1) _ zeroImap (0, 0) _ rfl (row_set HRA2.out) Try.underlying25 rfl info_imap) rfl ?_
          exact ipPost_bad F.out F2.out (below_setRow (HBA.out.trans (HB2.out.mono HBA.out.size)) (by omega) _)
      · have hrt : rightB x y = true := by cases h : rightB x y; exact absurd (.inl h) hr; rfl
        have hx0 : x ≠ 0 := fun h => hr (.inr h)
        have g0 : (x == 0) = false := beq_eq_false_iff_ne.2 hx0
        obtain ⟨pc, pn, e1⟩ := get48 HX.out hk48
        have E1 := Lib.hid e1
        have F := Lib.hid (set_ok (p := ⟨x, y⟩) HE.out hk48 hrt hx0)
        obtain ⟨b, o, rfl, hb⟩ := rows_some RA.out (by omega)
        have HLK : Hid (∀ W, Below wa.heap.size wa W → Calls Try.prog 58 #[.agg #[.slice (some ⟨b, o, none⟩) 48 c, .slice A' 48 c']] W (LkPost xs gs W)) := fun W h => like_any _ c xs _ c' gs W ((RA.out.below h).more h.size) ((RA'.out.below h).more h.size)
        unfold LkPost at HLK
        have hone : Hid (∀ (A A' : Option Addr) (n c n' c' : Nat), ((#[.slice A n c, .slice A' n' c'] : Array Value).all (·.oneCell')) = true) := fun _ _ _ _ _ _ => by simp [Value.oneCell']
        rw [hrt] at HRI
        clear hrt hx0 e1 hr
        go_enter Try.func15, Try.ntmps15
        go_wp2_with (first
          | (go_at_call 56; rw [← HWA.out]; refine HC.out.mono ?_; rintro e w1 ⟨rfl, hb1⟩; have hrb1 := row_below HRB.out (row_lt HRB.out) hb1; have hrp1 := row_below HRP.out (row_lt HRP.out) hb1; have q0 : w1.cell? ⟨w.heap.size, 0, none⟩ = some (.slice (some ⟨b, o, none⟩) 48 c) := row_cell hrb1 0; have q1 : w1.cell? ⟨w.heap.size, 1, none⟩ = some (.slice A' 48 c') := row_cell hrb1 1; have u0 : w1.cell? ⟨w.heap.size + 1, 0, none⟩ = some (.int .i64 x) := row_cell hrp1 0; have u1 : w1.cell? ⟨w.heap.size + 1, 1, none⟩ = some (.int .i64 y) := row_cell hrp1 1; have q8 := row_lt hrb1; have u8 := row_lt hrp1; have HRA1 := Lib.hid (row_below HRA.out (row_lt HRA.out) hb1); have HB1 := Lib.hid hb1; clear hrb1 hrp1 hb1)
          | (go_at_call 57; refine (HRI.out _).mono ?_; rintro e w2 ⟨rfl, hw2⟩; have hb2 : Below w1.heap.size w1 w2 := (by rw [← hw2]; exact (Below.refl _ _).alloc (Nat.le_refl _) _); have HRA2 := Lib.hid (row_below HRA1.out (row_lt HRA1.out) hb2); have q0 := on_b q0 q8 hb2; have q1 := on_b q1 q8 hb2; have u0 := on_b u0 u8 hb2; have u1 := on_b u1 u8 hb2; have q8 := Nat.lt_of_lt_of_le q8 hb2.size; have u8 := Nat.lt_of_lt_of_le u8 hb2.size; have HB2 := Lib.hid (HB1.out.trans (hb2.mono HB1.out.size)); clear hw2 hb2)
          | (refine wpList_store_rowTo rfl _ _ _ rfl rfl (w.heap.size + 1 + 1) #[.slice (some ⟨g1, off1, none⟩) 48 d, .slice (some ⟨g2, off2, none⟩) 48 d'] rfl rfl 25 zeroImap l2 info_imap rfl (hone.out _ _ _ _ _ _) ?_)
          | (go_at_call 58; refine (HLK.out _ HB2.out).mono ?_; rintro e w3 ⟨D, d, D', d', rfl, o1, o2, ap, hb3⟩; have OO1 := Lib.hid o1; have OO2 := Lib.hid o2; have AP := Lib.hid ap; have HB3 := Lib.hid hb3; have s0 := on_b u0 u8 hb3; have s1 := on_b u1 u8 hb3; have s8 := Nat.lt_of_lt_of_le u8 hb3.size; clear o1 o2 ap hb3)
          | (refine wpList_store_rowTo rfl _ _ _ rfl rfl w3.heap.size #[.slice D 48 d, .slice D' 48 d'] rfl rfl 25 zeroImap (heap_alloc_new w3 _) info_imap rfl (hone.out D D' 48 d 48 d') ?_; obtain ⟨w4, hw4⟩ : ∃ w4, (w3.alloc (.cells zeroImap 25)).setRow w3.heap.size #[.slice D 48 d, .slice D' 48 d'] = w4 := ⟨_, rfl⟩; rw [hw4]; have HW4 := Lib.hid hw4; clear hw4; obtain ⟨g1, off1, rfl, h11, h12⟩ := own_some OO1.out (by omega); obtain ⟨g2, off2, rfl, h21, h22⟩ := own_some OO2.out (by omega); have X3 := Lib.hid (set_facts (x := x) (y := y) E1.out OO1.out OO2.out AP.out HW4.out HRA2.out HB3.out); obtain ⟨m0, c1, f1, c2, f2, n2, l0, l1, l2, _⟩ := X3.out.1; have t0 := on_b s0 s8 X3.out.2.2.2.2; have t1 := on_b s1 s8 X3.out.2.2.2.2))
        refine bodyPost_ret (results_cell_tmp_row rfl _ _ (w.heap.size + 1 + 1) _ #[.slice (some ⟨g1, off1, none⟩) 48 d, .slice (some ⟨g2, off2, none⟩) 48 d'] (0, 0) _ rfl (row_set l2) Try.underlying25 rfl info_imap) rfl ?_
        have hz : w.heap.size + 1 + 1 < w2.heap.size := by have := HZA.out; have := HB2.out.size; omega
        exact ipPost_ok F.out.1 F.out.2.1 F.out.2.2 ((X3.out.2.1.setRow hz _).rows place_two2 (by omega)) (own_intsI (X3.out.2.2.1.setRow hz _)) (below_setRow ((HBA.out.trans (HB2.out.mono HBA.out.size)).trans (X3.out.2.2.2.1.mono (by omega))) (by omega) _)
  · have F := Lib.hid (set_form (n := m) (p := ⟨x, y⟩) (by rw [impE_no hk]; decide))
    have F2 := Lib.hid (set_bad F.out (by decide))
    rw [impE_no hk] at HC
    clear r r' ra ra' hwa hza hba hra hrb hrp hk
    go_enter Try.func15, Try.ntmps15
    go_wp2_with (first
      | (go_at_call 56; rw [← HWA.out]; refine HC.out.mono ?_; rintro e w1 ⟨rfl, hb1⟩; have hrb1 := row_below HRB.out (row_lt HRB.out) hb1; have hrp1 := row_below HRP.out (row_lt HRP.out) hb1; have q0 : w1.cell? ⟨w.heap.size, 0, none⟩ = some (.slice A n c) := row_cell hrb1 0; have q1 : w1.cell? ⟨w.heap.size, 1, none⟩ = some (.slice A' n' c') := row_cell hrb1 1; have u0 : w1.cell? ⟨w.heap.size + 1, 0, none⟩ = some (.int .i64 x) := row_cell hrp1 0; have u1 : w1.cell? ⟨w.heap.size + 1, 1, none⟩ = some (.int .i64 y) := row_cell hrp1 1; have q8 := row_lt hrb1; have u8 := row_lt hrp1; have HRA1 := Lib.hid (row_below HRA.out (row_lt HRA.out) hb1); have HB1 := Lib.hid hb1; clear hrb1 hrp1 hb1)
      | (refine wpList_store_rowTo rfl _ _ _ rfl rfl (w.heap.size + 1 + 1) zeroImap rfl rfl 25 zeroImap HRA1.out info_imap rfl hone0.out ?_))
    refine bodyPost_ret (results_cell_tmp_row rfl _ _ (w.heap.size + 1 + 1) _ zeroImap (0, 0) _ rfl (row_set HRA1.out) Try.underlying25 rfl info_imap) rfl ?_
    exact ipPost_bad F.out F2.out (below_setRow (HBA.out.trans (HB1.out.mono HBA.out.size)) (by omega) _)
end Go.Proofs.Ytjmgocfoimhmjaa
