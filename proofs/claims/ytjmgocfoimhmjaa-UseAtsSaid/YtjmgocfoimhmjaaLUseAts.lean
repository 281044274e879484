/- The law UseAts, walked: it returns true for every disk and place. -/
import Derived.Test.YtjmgocfoimhmjaaUseW
namespace Go.Proofs.Ytjmgocfoimhmjaa.lUseAts
open Go.RowKit

set_option maxRecDepth 20000 in
set_option maxHeartbeats 2000000 in
theorem walk (A : Option Addr) (n c : Nat) (cs : List ByteArray) (A' : Option Addr) (n' c' : Nat) (ws : List PutD) (a1 : PlaceD) (w : World) (r : RowsIn w w.heap.size A n c (fun z => [.string z]) 1 cs) (_o0 : ∀ z ∈ cs, (fun z => z.size ≤ maxLen) z) (_s0 : c * 16 ≤ 140737488351232) (r' : RowsIn w w.heap.size A' n' c' PutD.cells 2 ws) (_o1 : ∀ z ∈ ws, PutD.ok z) (_s1 : c' * 24 ≤ 140737488351232) (_w1 : a1.ok) :
    Calls Try.prog 9 #[.agg #[.slice A n c, .slice A' n' c'], .agg #[.int .i64 a1.Cell, .int .i64 a1.Nth]] w fun e w' => e = .returned (.bool true) ∧ Below w.heap.size w w' := by
  clear _o0 _s0 _o1 _s1 _w1
  obtain ⟨pc, pn⟩ := a1
  show Calls Try.prog 9 #[.agg #[.slice A n c, .slice A' n' c'], .agg #[.int .i64 pc, .int .i64 pn]] w _
  have hlen := r.len
  subst hlen
  have hlen' := r'.len
  subst hlen'
  obtain ⟨wa, hwa⟩ : ∃ wa, wa = (w.alloc (.cells #[.slice A cs.length c, .slice A' ws.length c'] 41)).alloc (.cells #[.int .i64 pc, .int .i64 pn] 27) := ⟨_, rfl⟩
  have hza : wa.heap.size = w.heap.size + 2 := by rw [hwa]; simp
  have hba : Below w.heap.size w wa := by rw [hwa]; exact ((Below.refl _ _).alloc (Nat.le_refl _) _).alloc (by simp) _
  have hrp : wa.heap[w.heap.size + 1]? = some (.cells #[.int .i64 pc, .int .i64 pn] 27 (0, 0)) := by
    rw [hwa]
    have := heap_alloc_new (w.alloc (.cells #[.slice A cs.length c, .slice A' ws.length c'] 41)) (.cells #[.int .i64 pc, .int .i64 pn] 27)
    rw [show (w.alloc (.cells #[.slice A cs.length c, .slice A' ws.length c'] 41)).heap.size = w.heap.size + 1 by simp] at this
    exact this
  have hrb : wa.heap[w.heap.size]? = some (.cells #[.slice A cs.length c, .slice A' ws.length c'] 41 (0, 0)) := by
    rw [hwa]; exact (heap_alloc_old _ _ (by simp)).trans (heap_alloc_new w _)
  have hle : w.heap.size ≤ wa.heap.size := by omega
  have RA := Lib.hid ((r.below hba).more hle)
  have RA' := Lib.hid ((r'.below hba).more hle)
  have HC : Hid (∀ W, Below wa.heap.size wa W → W.cell? ⟨w.heap.size, 0, none⟩ = some (.slice A cs.length c) ∧ W.cell? ⟨w.heap.size, 1, none⟩ = some (.slice A' ws.length c') ∧ W.cell? ⟨w.heap.size + 1, 0, none⟩ = some (.int .i64 pc) ∧ W.cell? ⟨w.heap.size + 1, 1, none⟩ = some (.int .i64 pn) ∧ w.heap.size < W.heap.size ∧ w.heap.size + 1 < W.heap.size) := fun W h => by
    have q0 := row_below hrb (row_lt hrb) h
    have q1 := row_below hrp (row_lt hrp) h
    exact ⟨row_cell q0 0, row_cell q0 1, row_cell q1 0, row_cell q1 1, row_lt q0, row_lt q1⟩
  have H1 : Hid (∀ W, Below wa.heap.size wa W → Calls Try.prog 40 #[.agg #[.slice A cs.length c, .slice A' ws.length c'], .agg #[.int .i64 pc, .int .i64 pn]] W (UbPost (uaE cs ws pc pn) (uaB cs ws pc pn) W)) := fun W h => usea_any A _ c cs A' _ c' ws pc pn W ((RA.out.below h).more h.size) ((RA'.out.below h).more h.size)
  have H2 : Hid (∀ W, Below wa.heap.size wa W → Calls Try.prog 26 #[.agg #[.slice A cs.length c, .slice A' ws.length c']] W fun e w' => e = .returned (.int .i64 (dskE cs ws)) ∧ Below W.heap.size W w') := fun W h => dskr_any A _ c cs A' _ c' ws W ((RA.out.below h).more h.size) ((RA'.out.below h).more h.size)
  unfold UbPost at H1
  have HWA := Lib.hid hwa
  have HBA := Lib.hid hba
  clear r r' hwa hba hrb hrp hle hza
  by_cases hd : dskE cs ws = 0
  · obtain ⟨e1, e2⟩ := ua_ok (pc := pc) (pn := pn) hd
    have h400 := (dsk_zero hd).2.2.2.2
    have H3 : Hid (∀ W, Below wa.heap.size wa W → Calls Try.prog 41 #[.agg #[.slice A cs.length c, .slice A' ws.length c'], .agg #[.int .i64 pc, .int .i64 pn]] W (UbPost (ubE cs ws pc pn) (ubB cs ws pc pn) W)) := fun W h => atr_any A _ c cs A' _ c' ws pc pn W ((RA.out.below h).more h.size) ((RA'.out.below h).more h.size) h400
    unfold UbPost at H3
    rw [e1, e2] at H1
    rw [hd] at H2
    clear e1 e2 hd h400
    generalize ubE cs ws pc pn = E at *
    generalize ubB cs ws pc pn = x at *
    obtain ⟨xk, xi, xn, xt⟩ := x
    simp only at H1 H3
    go_enter Try.func9, Try.ntmps9
    go_wp2_with (first
      | (go_at_call 40; rw [← HWA.out]; refine (H1.out _ (Below.refl _ _)).mono ?_; rintro e w1 ⟨rfl, hb1⟩; have HB1 := Lib.hid (hb1.alloc hb1.size (.cells #[.int .i64 xk, .int .i64 xi, .int .i64 xn, .string xt] 71)); obtain ⟨u0, u1, u2, u3, u4, u5⟩ := HC.out w1 hb1)
      | (go_at_call 26; refine (H2.out _ HB1.out).mono ?_; rintro e w2 ⟨rfl, hb2⟩; have HB2 := Lib.hid (HB1.out.trans (hb2.mono HB1.out.size)); obtain ⟨v0, v1, v2, v3, v4, v5⟩ := HC.out w2 HB2.out; have hm := row_below (heap_alloc_new w1 (.cells #[.int .i64 xk, .int .i64 xi, .int .i64 xn, .string xt] 71)) (by simp) hb2; have HM := Lib.hid hm; clear hb2 hm)
      | (go_at_call 41; refine (H3.out _ HB2.out).mono ?_; rintro e w3 ⟨rfl, hb3⟩; have hm3 := row_below HM.out (row_lt HM.out) hb3; have y0 : w3.cell? ⟨w1.heap.size, 0, none⟩ = some (.int .i64 xk) := row_cell hm3 0; have y1 : w3.cell? ⟨w1.heap.size, 1, none⟩ = some (.int .i64 xi) := row_cell hm3 1; have y2 : w3.cell? ⟨w1.heap.size, 2, none⟩ = some (.int .i64 xn) := row_cell hm3 2; have y3 : w3.cell? ⟨w1.heap.size, 3, none⟩ = some (.string xt) := row_cell hm3 3; have y4 := row_lt hm3; have HB3 := Lib.hid (HB2.out.trans (hb3.mono HB2.out.size)); clear hm3 hb3))
    go_ret
    exact ⟨rfl, HBA.out.trans ((HB3.out.alloc HB3.out.size _).mono HBA.out.size)⟩
  · obtain ⟨e1, e2⟩ := ua_bad (pc := pc) (pn := pn) hd
    have i4 : (dskE cs ws != 0) = true := bne_iff_ne.2 hd
    rw [e1, e2] at H1
    generalize dskE cs ws = de at *
    clear hd e1 e2
    go_enter Try.func9, Try.ntmps9
    go_wp2_with (first
      | (go_at_call 40; rw [← HWA.out]; refine (H1.out _ (Below.refl _ _)).mono ?_; rintro e w1 ⟨rfl, hb1⟩; have HB1 := Lib.hid (hb1.alloc hb1.size (.cells zeroBlR 71)); obtain ⟨u0, u1, u2, u3, u4, u5⟩ := HC.out w1 hb1)
      | (go_at_call 26; refine (H2.out _ HB1.out).mono ?_; rintro e w2 ⟨rfl, hb2⟩; have HB2 := Lib.hid (HB1.out.trans (hb2.mono HB1.out.size)); have hm := row_below (heap_alloc_new w1 (.cells zeroBlR 71)) (by simp) hb2; have y0 : w2.cell? ⟨w1.heap.size, 0, none⟩ = some (.int .i64 0) := row_cell hm 0; have y1 : w2.cell? ⟨w1.heap.size, 1, none⟩ = some (.int .i64 0) := row_cell hm 1; have y2 : w2.cell? ⟨w1.heap.size, 2, none⟩ = some (.int .i64 0) := row_cell hm 2; have y3 : w2.cell? ⟨w1.heap.size, 3, none⟩ = some (.string ⟨#[]⟩) := row_cell hm 3; clear hb2 hm))
    go_ret
    exact ⟨rfl, HBA.out.trans (HB2.out.mono HBA.out.size)⟩
end Go.Proofs.Ytjmgocfoimhmjaa.lUseAts
