/- The law DiskWrites, walked: it returns true for every disk, place and text. -/
import Derived.Test.YtjmgocfoimhmjaaPlayR
import Derived.Test.YtjmgocfoimhmjaaReadD
import Derived.Test.YtjmgocfoimhmjaaWriteD
import Derived.Test.YtjmgocfoimhmjaaCellR
import Derived.Test.YtjmgocfoimhmjaaSameD
namespace Go.Proofs.Ytjmgocfoimhmjaa.lDiskWrites
open Go.RowKit

theorem cf_every : ∀ (args : Array Value) (W : World), (callFunc 28 args).run Try.prog W = .ok (.enter 28 args) W := fun args W => by kernel_rfl
set_option maxHeartbeats 400000 in
theorem keeps_every (B : Nat) (w : World) (N : Nat) : Keeps 28 #[] B w N allB := fun i W _ _ => by
  show Calls Try.prog 28 #[.int .i64 (i : Int)] W _
  go_enter Try.func28, Try.ntmps28
  go_wp2
  go_ret
  exact ⟨rfl, Below.refl _ _⟩
theorem pl_one (cs : List ByteArray) (ws : List PutD) (a : Int) (t : ByteArray) : plE cs ws [⟨1, a, t⟩] = wrE cs ws a t ∧ plX cs ws [⟨1, a, t⟩] = wrX cs ws a t ∧ plY cs ws [⟨1, a, t⟩] = wrY cs ws a t := by
  by_cases hd : dskE cs ws = 0
  · obtain ⟨e1, e2, e3⟩ := pl_ok (l := [⟨1, a, t⟩]) hd
    have hp : pl cs ws [⟨1, a, t⟩] = (wrE cs ws a t, wrX cs ws a t, wrY cs ws a t) := by
      by_cases hq : putE cs.length a t.size = 0
      · by_cases h4 : ws.length = 400
        · have e := wrE_full hd hq h4
          rw [e, (wr_bad e (by decide)).1, (wr_bad e (by decide)).2]
          simp [pl, hq, h4]
        · have e := wrE_ok hd hq h4
          rw [e, (wr_good e).1, (wr_good e).2]
          simp [pl, hq, h4]
      · have e := wrE_put hd hq
        rw [(wr_bad e hq).1, (wr_bad e hq).2, e]
        simp [pl, hq]
    rw [hp] at e1 e2 e3
    exact ⟨e1, e2, e3⟩
  · obtain ⟨e1, e2, e3⟩ := pl_bad (l := [⟨1, a, t⟩]) hd
    have e := wrE_dsk (a := a) (t := t) hd
    rw [(wr_bad e hd).1, (wr_bad e hd).2, e]
    exact ⟨e1, e2, e3⟩
theorem one_op {w : World} {b : Nat} {a : Int} {t : ByteArray} {T : TypeId} (h : w.heap[b]? = some (.cells #[.int .i64 1, .int .i64 a, .string t] T (0, 0))) : RowsIn w w.heap.size (some ⟨b, 0, none⟩) 1 1 OpD.cells 3 [⟨1, a, t⟩] :=
  ⟨rfl, Nat.le_refl _, by decide, fun i x hx => by
    match i, hx with
    | 0, hx =>
      simp at hx
      subst hx
      refine ⟨b, 0, rfl, row_lt h, fun j u hu => ?_⟩
      rw [row_cell h]
      match j, hu with
      | 0, hu => simpa [OpD.cells] using hu
      | 1, hu => simpa [OpD.cells] using hu
      | 2, hu => simpa [OpD.cells] using hu
      | j + 3, hu => simp [OpD.cells] at hu
    | i + 1, hx => simp at hx⟩
theorem new2 (w : World) (o o' : Obj) : ((w.alloc o).alloc o').heap[w.heap.size + 1]? = some o' := by
  have := heap_alloc_new (w.alloc o) o'
  rw [show (w.alloc o).heap.size = w.heap.size + 1 by simp] at this
  exact this
theorem on_alloc {W W' : World} {o : Obj} {p : Addr} {v : Value} (h : W.cell? p = some v) (hp : p.block < W.heap.size) (hb : Below (W.alloc o).heap.size (W.alloc o) W') : W'.cell? p = some v :=
  (hb.cell (p := p) (by simp; omega)).trans ((World.cell?_alloc_lt W o p hp).trans h)
theorem rows_on {α : Type} {enc : α → List Value} {k n c : Nat} {A : Option Addr} {xs : List α} {W W' : World} (r : RowsIn W W.heap.size A n c enc k xs) (hb : Below W.heap.size W W') : RowsIn W' W'.heap.size A n c enc k xs := (r.below hb).more hb.size

set_option maxRecDepth 20000 in
set_option maxHeartbeats 2000000 in
theorem walk (A : Option Addr) (n c : Nat) (cs : List ByteArray) (A' : Option Addr) (n' c' : Nat) (ws : List PutD) (a : Int) (t : ByteArray) (w : World) (r : RowsIn w w.heap.size A n c (fun z => [.string z]) 1 cs) (_o0 : ∀ z ∈ cs, (fun z => z.size ≤ maxLen) z) (_s0 : c * 16 ≤ 140737488351232) (r' : RowsIn w w.heap.size A' n' c' PutD.cells 2 ws) (_o1 : ∀ z ∈ ws, PutD.ok z) (_s1 : c' * 24 ≤ 140737488351232) (_w1 : (Lit.int .i64 a).wf = true) (_w2 : t.size ≤ 140737488351232) :
    Calls Try.prog 4 #[.agg #[.slice A n c, .slice A' n' c'], .int .i64 a, .string t] w fun e w' => e = .returned (.bool true) ∧ Below w.heap.size w w' := by
  clear _o0 _s0 _o1 _s1 _w1 _w2
  have hlen := r.len
  subst hlen
  have hlen' := r'.len
  subst hlen'
  obtain ⟨wa, hwa⟩ : ∃ wa, wa = w.alloc (.cells #[.slice A cs.length c, .slice A' ws.length c'] 41) := ⟨_, rfl⟩
  have hza : wa.heap.size = w.heap.size + 1 := by rw [hwa]; simp
  have hba : Below w.heap.size w wa := by rw [hwa]; exact (Below.refl _ _).alloc (Nat.le_refl _) _
  have hrb : wa.heap[w.heap.size]? = some (.cells #[.slice A cs.length c, .slice A' ws.length c'] 41 (0, 0)) := by
    rw [hwa]; exact heap_alloc_new w _
  have hle : w.heap.size ≤ wa.heap.size := by omega
  have ra := Lib.hid ((r.below hba).more hle)
  have ra' := Lib.hid ((r'.below hba).more hle)
  have HD : Hid (∀ W, Below wa.heap.size wa W → W.cell? ⟨w.heap.size, 0, none⟩ = some (.slice A cs.length c) ∧ W.cell? ⟨w.heap.size, 1, none⟩ = some (.slice A' ws.length c') ∧ w.heap.size < W.heap.size) := fun W h => by
    have q := row_below hrb (row_lt hrb) h
    exact ⟨row_cell q 0, row_cell q 1, row_lt q⟩
  have H1 : Hid (∀ W, Below wa.heap.size wa W → Calls Try.prog 22 #[.agg #[.slice A cs.length c, .slice A' ws.length c'], .int .i64 a, .string t] W (DkPost (wrE cs ws a t) (wrX cs ws a t) (wrY cs ws a t) W)) := fun W h => dwrite_any A _ c cs A' _ c' ws a t W ((ra.out.below h).more h.size) ((ra'.out.below h).more h.size)
  have H2 : Hid (∀ W b, Below wa.heap.size wa W → W.heap[b]? = some (.cells #[.int .i64 1, .int .i64 a, .string t] 46 (0, 0)) → Calls Try.prog 23 #[.agg #[.slice A cs.length c, .slice A' ws.length c'], .slice (some ⟨b, 0, none⟩) 1 1] W (DkPost (wrE cs ws a t) (wrX cs ws a t) (wrY cs ws a t) W)) := fun W b h hb => by
    have := playr_any A _ c cs A' _ c' ws (some ⟨b, 0, none⟩) 1 1 [⟨1, a, t⟩] W ((ra.out.below h).more h.size) ((ra'.out.below h).more h.size) (one_op hb)
    obtain ⟨e1, e2, e3⟩ := pl_one cs ws a t
    rw [e1, e2, e3] at this
    exact this
  have H3 : Hid (∀ W, Below wa.heap.size wa W → Calls Try.prog 24 #[.agg #[.slice A cs.length c, .slice A' ws.length c'], .int .i64 a] W fun e w' => e = .returned (.tuple #[.string (rdS cs ws a), .int .i64 (rdE cs ws a)]) ∧ Below W.heap.size W w') := fun W h => dread_any A _ c cs A' _ c' ws a W ((ra.out.below h).more h.size) ((ra'.out.below h).more h.size)
  have H4 : Hid (∀ W, Below wa.heap.size wa W → Calls Try.prog 26 #[.agg #[.slice A cs.length c, .slice A' ws.length c']] W fun e w' => e = .returned (.int .i64 (dskE cs ws)) ∧ Below W.heap.size W w') := fun W h => dskr_any A _ c cs A' _ c' ws W ((ra.out.below h).more h.size) ((ra'.out.below h).more h.size)
  have H5 := Lib.hid @samed_any
  have RD := Lib.hid (fun h => rd_dsk (cs := cs) (ws := ws) (a := a) h)
  have RG := Lib.hid (fun h h2 => rd_arg (cs := cs) (ws := ws) (a := a) h h2)
  have RO := Lib.hid (fun h h2 => rd_ok (cs := cs) (ws := ws) (a := a) h h2)
  have H6 : Hid (∀ (k : Nat) W, a = k → k < cs.length → dskE cs ws = 0 → Below wa.heap.size wa W → Calls Try.prog 27 #[.agg #[.slice A cs.length c, .slice A' ws.length c'], .int .i64 k, .func (.func 28) #[] #[]] W fun e w' => e = .returned (.string (nowS cs ws a)) ∧ Below W.heap.size W w') := fun k W hk hk2 hd h => by
    subst hk
    exact cell_any 28 #[] allB A _ c cs A' _ c' ws k W ((ra.out.below h).more h.size) ((ra'.out.below h).more h.size) hk2 (dsk_zero hd).2.2.2.2 (keeps_every _ _ _) cf_every
  have HWA := Lib.hid hwa
  have HBA := Lib.hid hba
  unfold DkPost at H1 H2
  generalize wrE cs ws a t = we at *
  generalize wrX cs ws a t = wx at *
  generalize wrY cs ws a t = wy at *
  clear r r' hwa hza hba hrb hle
  have hways : (dskE cs ws ≠ 0 ∧ rdE cs ws a = dskE cs ws ∧ rdS cs ws a = ⟨#[]⟩) ∨ (dskE cs ws = 0 ∧ a < 0 ∧ rdE cs ws a = 1 ∧ rdS cs ws a = ⟨#[]⟩) ∨ (dskE cs ws = 0 ∧ 0 ≤ a ∧ (cs.length : Int) ≤ a ∧ rdE cs ws a = 1 ∧ rdS cs ws a = ⟨#[]⟩) ∨ (dskE cs ws = 0 ∧ ∃ k : Nat, a = k ∧ k < cs.length ∧ rdE cs ws a = 0 ∧ rdS cs ws a = nowS cs ws a) := by
    by_cases hd : dskE cs ws = 0
    · by_cases h0 : a < 0
      · exact .inr (.inl ⟨hd, h0, RG.out hd (.inl h0)⟩)
      · by_cases h1 : (cs.length : Int) ≤ a
        · exact .inr (.inr (.inl ⟨hd, by omega, h1, RG.out hd (.inr h1)⟩))
        · exact .inr (.inr (.inr ⟨hd, a.toNat, by omega, by omega, RO.out hd (by omega)⟩))
    · exact .inl ⟨hd, RD.out hd⟩
  clear RD RG RO
  rcases hways with ⟨hd, e1, e2⟩ | ⟨hd, ha, e1, e2⟩ | ⟨hd, ha, ha2, e1, e2⟩ | ⟨hd, k, rfl, hk, e1, e2⟩
  all_goals rw [e1, e2] at H3
  all_goals clear e1 e2
  · have g0 : (dskE cs ws != 0) = true := bne_iff_ne.2 hd
    generalize dskE cs ws = de at *
    clear hd H6
    go_enter Try.func4, Try.ntmps4
    go_wp2_with (first
      | (go_at_call 22; rw [← HWA.out]; refine (H1.out _ (Below.refl _ _)).mono ?_; rintro e w1 ⟨D, q, d, D', q', d', rfl, r1, r1', hb1⟩; have HB1 := Lib.hid hb1; have R1 := Lib.hid r1; have R1' := Lib.hid r1'; have hb1a := hb1.alloc hb1.size (.cells #[.slice D q d, .slice D' q' d'] 41); have hb1b := hb1a.alloc hb1a.size (.cells #[.int .i64 1, .int .i64 a, .string t] 46); have HB1b := Lib.hid hb1b; have HN1 := Lib.hid (new2 w1 (.cells #[.slice D q d, .slice D' q' d'] 41) (.cells #[.int .i64 1, .int .i64 a, .string t] 46)); obtain ⟨u0, u1, u2⟩ := HD.out w1 hb1; clear hb1 r1 r1' hb1a hb1b)
      | (go_at_call 23; refine (H2.out _ _ HB1b.out HN1.out).mono ?_; rintro e w2 ⟨E, p, f, E', p', f', rfl, r2, r2', hb2⟩; have hN1 := row_alloc (row_below (row_alloc (heap_alloc_new w1 (.cells #[.slice D q d, .slice D' q' d'] 41)) (.cells #[.int .i64 1, .int .i64 a, .string t] 46)) (by simp; omega) hb2) (.cells #[.slice E p f, .slice E' p' f'] 41); have hN2 := heap_alloc_new w2 (.cells #[.slice E p f, .slice E' p' f'] 41); have R1c := Lib.hid (carry_new (rows_on (carry_new (carry_new R1.out (.cells #[.slice D q d, .slice D' q' d'] 41)) (.cells #[.int .i64 1, .int .i64 a, .string t] 46)) hb2) (.cells #[.slice E p f, .slice E' p' f'] 41)); have R1c' := Lib.hid (carry_new (rows_on (carry_new (carry_new R1'.out (.cells #[.slice D q d, .slice D' q' d'] 41)) (.cells #[.int .i64 1, .int .i64 a, .string t] 46)) hb2) (.cells #[.slice E p f, .slice E' p' f'] 41)); have R2c := Lib.hid (carry_new r2 (.cells #[.slice E p f, .slice E' p' f'] 41)); have R2c' := Lib.hid (carry_new r2' (.cells #[.slice E p f, .slice E' p' f'] 41)); have hb2' := HB1b.out.trans (hb2.mono HB1b.out.size); have HB2a := Lib.hid (hb2'.alloc hb2'.size (.cells #[.slice E p f, .slice E' p' f'] 41)); obtain ⟨v0, v1, v2⟩ := HD.out w2 hb2'; have HRN1 := Lib.hid hN1; have HRN2 := Lib.hid hN2; clear hb2 r2 r2' hb2' hN1 hN2)
      | (go_at_call 24; refine (H3.out _ HB2a.out).mono ?_; rintro e w3 ⟨rfl, hb3⟩; have hN1 := row_below HRN1.out (row_lt HRN1.out) hb3; have hN2 := row_below HRN2.out (row_lt HRN2.out) hb3; have y0 : w3.cell? ⟨w1.heap.size, 0, none⟩ = some (.slice D q d) := row_cell hN1 0; have y1 : w3.cell? ⟨w1.heap.size, 1, none⟩ = some (.slice D' q' d') := row_cell hN1 1; have z0 : w3.cell? ⟨w2.heap.size, 0, none⟩ = some (.slice E p f) := row_cell hN2 0; have z1 : w3.cell? ⟨w2.heap.size, 1, none⟩ = some (.slice E' p' f') := row_cell hN2 1; have R1d := Lib.hid (rows_on R1c.out hb3); have R1d' := Lib.hid (rows_on R1c'.out hb3); have R2d := Lib.hid (rows_on R2c.out hb3); have R2d' := Lib.hid (rows_on R2c'.out hb3); have HB3 := Lib.hid (HB2a.out.trans (hb3.mono HB2a.out.size)); clear hN1 hN2 hb3)
      | (go_at_call 25; refine (H5.out _ _ _ _ _ _ _ _ _ _ _ _ _ _ _ R1d.out R1d'.out R2d.out R2d'.out).mono ?_; rintro e w4 ⟨rfl, hb4⟩; have HB4 := Lib.hid (HB3.out.trans (hb4.mono HB3.out.size)); obtain ⟨x0, x1, x2⟩ := HD.out w4 HB4.out; clear hb4)
      | (go_at_call 26; refine (H4.out _ HB4.out).mono ?_; rintro e w5 ⟨rfl, hb5⟩; have HB5 := Lib.hid (HB4.out.trans (hb5.mono HB4.out.size)); obtain ⟨s0, s1, s2⟩ := HD.out w5 HB5.out; clear hb5))
    go_ret
    exact ⟨rfl, HBA.out.trans (HB5.out.mono HBA.out.size)⟩
  · have g0 : (dskE cs ws != 0) = false := by rw [hd]; rfl
    rw [hd] at H4
    clear hd H6 g0
    go_enter Try.func4, Try.ntmps4
    go_wp2_with (first
      | (go_at_call 22; rw [← HWA.out]; refine (H1.out _ (Below.refl _ _)).mono ?_; rintro e w1 ⟨D, q, d, D', q', d', rfl, r1, r1', hb1⟩; have HB1 := Lib.hid hb1; have R1 := Lib.hid r1; have R1' := Lib.hid r1'; have hb1a := hb1.alloc hb1.size (.cells #[.slice D q d, .slice D' q' d'] 41); have hb1b := hb1a.alloc hb1a.size (.cells #[.int .i64 1, .int .i64 a, .string t] 46); have HB1b := Lib.hid hb1b; have HN1 := Lib.hid (new2 w1 (.cells #[.slice D q d, .slice D' q' d'] 41) (.cells #[.int .i64 1, .int .i64 a, .string t] 46)); obtain ⟨u0, u1, u2⟩ := HD.out w1 hb1; clear hb1 r1 r1' hb1a hb1b)
      | (go_at_call 23; refine (H2.out _ _ HB1b.out HN1.out).mono ?_; rintro e w2 ⟨E, p, f, E', p', f', rfl, r2, r2', hb2⟩; have hN1 := row_alloc (row_below (row_alloc (heap_alloc_new w1 (.cells #[.slice D q d, .slice D' q' d'] 41)) (.cells #[.int .i64 1, .int .i64 a, .string t] 46)) (by simp; omega) hb2) (.cells #[.slice E p f, .slice E' p' f'] 41); have hN2 := heap_alloc_new w2 (.cells #[.slice E p f, .slice E' p' f'] 41); have R1c := Lib.hid (carry_new (rows_on (carry_new (carry_new R1.out (.cells #[.slice D q d, .slice D' q' d'] 41)) (.cells #[.int .i64 1, .int .i64 a, .string t] 46)) hb2) (.cells #[.slice E p f, .slice E' p' f'] 41)); have R1c' := Lib.hid (carry_new (rows_on (carry_new (carry_new R1'.out (.cells #[.slice D q d, .slice D' q' d'] 41)) (.cells #[.int .i64 1, .int .i64 a, .string t] 46)) hb2) (.cells #[.slice E p f, .slice E' p' f'] 41)); have R2c := Lib.hid (carry_new r2 (.cells #[.slice E p f, .slice E' p' f'] 41)); have R2c' := Lib.hid (carry_new r2' (.cells #[.slice E p f, .slice E' p' f'] 41)); have hb2' := HB1b.out.trans (hb2.mono HB1b.out.size); have HB2a := Lib.hid (hb2'.alloc hb2'.size (.cells #[.slice E p f, .slice E' p' f'] 41)); obtain ⟨v0, v1, v2⟩ := HD.out w2 hb2'; have HRN1 := Lib.hid hN1; have HRN2 := Lib.hid hN2; clear hb2 r2 r2' hb2' hN1 hN2)
      | (go_at_call 24; refine (H3.out _ HB2a.out).mono ?_; rintro e w3 ⟨rfl, hb3⟩; have hN1 := row_below HRN1.out (row_lt HRN1.out) hb3; have hN2 := row_below HRN2.out (row_lt HRN2.out) hb3; have y0 : w3.cell? ⟨w1.heap.size, 0, none⟩ = some (.slice D q d) := row_cell hN1 0; have y1 : w3.cell? ⟨w1.heap.size, 1, none⟩ = some (.slice D' q' d') := row_cell hN1 1; have z0 : w3.cell? ⟨w2.heap.size, 0, none⟩ = some (.slice E p f) := row_cell hN2 0; have z1 : w3.cell? ⟨w2.heap.size, 1, none⟩ = some (.slice E' p' f') := row_cell hN2 1; have R1d := Lib.hid (rows_on R1c.out hb3); have R1d' := Lib.hid (rows_on R1c'.out hb3); have R2d := Lib.hid (rows_on R2c.out hb3); have R2d' := Lib.hid (rows_on R2c'.out hb3); have HB3 := Lib.hid (HB2a.out.trans (hb3.mono HB2a.out.size)); clear hN1 hN2 hb3)
      | (go_at_call 25; refine (H5.out _ _ _ _ _ _ _ _ _ _ _ _ _ _ _ R1d.out R1d'.out R2d.out R2d'.out).mono ?_; rintro e w4 ⟨rfl, hb4⟩; have HB4 := Lib.hid (HB3.out.trans (hb4.mono HB3.out.size)); obtain ⟨x0, x1, x2⟩ := HD.out w4 HB4.out; clear hb4)
      | (go_at_call 26; refine (H4.out _ HB4.out).mono ?_; rintro e w5 ⟨rfl, hb5⟩; have HB5 := Lib.hid (HB4.out.trans (hb5.mono HB4.out.size)); obtain ⟨s0, s1, s2⟩ := HD.out w5 HB5.out; clear hb5))
    go_ret
    exact ⟨rfl, HBA.out.trans (HB5.out.mono HBA.out.size)⟩
  · rw [hd] at H4
    clear hd H6
    go_enter Try.func4, Try.ntmps4
    go_wp2_with (first
      | (go_at_call 22; rw [← HWA.out]; refine (H1.out _ (Below.refl _ _)).mono ?_; rintro e w1 ⟨D, q, d, D', q', d', rfl, r1, r1', hb1⟩; have HB1 := Lib.hid hb1; have R1 := Lib.hid r1; have R1' := Lib.hid r1'; have hb1a := hb1.alloc hb1.size (.cells #[.slice D q d, .slice D' q' d'] 41); have hb1b := hb1a.alloc hb1a.size (.cells #[.int .i64 1, .int .i64 a, .string t] 46); have HB1b := Lib.hid hb1b; have HN1 := Lib.hid (new2 w1 (.cells #[.slice D q d, .slice D' q' d'] 41) (.cells #[.int .i64 1, .int .i64 a, .string t] 46)); obtain ⟨u0, u1, u2⟩ := HD.out w1 hb1; clear hb1 r1 r1' hb1a hb1b)
      | (go_at_call 23; refine (H2.out _ _ HB1b.out HN1.out).mono ?_; rintro e w2 ⟨E, p, f, E', p', f', rfl, r2, r2', hb2⟩; have hN1 := row_alloc (row_below (row_alloc (heap_alloc_new w1 (.cells #[.slice D q d, .slice D' q' d'] 41)) (.cells #[.int .i64 1, .int .i64 a, .string t] 46)) (by simp; omega) hb2) (.cells #[.slice E p f, .slice E' p' f'] 41); have hN2 := heap_alloc_new w2 (.cells #[.slice E p f, .slice E' p' f'] 41); have R1c := Lib.hid (carry_new (rows_on (carry_new (carry_new R1.out (.cells #[.slice D q d, .slice D' q' d'] 41)) (.cells #[.int .i64 1, .int .i64 a, .string t] 46)) hb2) (.cells #[.slice E p f, .slice E' p' f'] 41)); have R1c' := Lib.hid (carry_new (rows_on (carry_new (carry_new R1'.out (.cells #[.slice D q d, .slice D' q' d'] 41)) (.cells #[.int .i64 1, .int .i64 a, .string t] 46)) hb2) (.cells #[.slice E p f, .slice E' p' f'] 41)); have R2c := Lib.hid (carry_new r2 (.cells #[.slice E p f, .slice E' p' f'] 41)); have R2c' := Lib.hid (carry_new r2' (.cells #[.slice E p f, .slice E' p' f'] 41)); have hb2' := HB1b.out.trans (hb2.mono HB1b.out.size); have HB2a := Lib.hid (hb2'.alloc hb2'.size (.cells #[.slice E p f, .slice E' p' f'] 41)); obtain ⟨v0, v1, v2⟩ := HD.out w2 hb2'; have HRN1 := Lib.hid hN1; have HRN2 := Lib.hid hN2; clear hb2 r2 r2' hb2' hN1 hN2)
      | (go_at_call 24; refine (H3.out _ HB2a.out).mono ?_; rintro e w3 ⟨rfl, hb3⟩; have hN1 := row_below HRN1.out (row_lt HRN1.out) hb3; have hN2 := row_below HRN2.out (row_lt HRN2.out) hb3; have y0 : w3.cell? ⟨w1.heap.size, 0, none⟩ = some (.slice D q d) := row_cell hN1 0; have y1 : w3.cell? ⟨w1.heap.size, 1, none⟩ = some (.slice D' q' d') := row_cell hN1 1; have z0 : w3.cell? ⟨w2.heap.size, 0, none⟩ = some (.slice E p f) := row_cell hN2 0; have z1 : w3.cell? ⟨w2.heap.size, 1, none⟩ = some (.slice E' p' f') := row_cell hN2 1; have R1d := Lib.hid (rows_on R1c.out hb3); have R1d' := Lib.hid (rows_on R1c'.out hb3); have R2d := Lib.hid (rows_on R2c.out hb3); have R2d' := Lib.hid (rows_on R2c'.out hb3); have HB3 := Lib.hid (HB2a.out.trans (hb3.mono HB2a.out.size)); clear hN1 hN2 hb3)
      | (go_at_call 25; refine (H5.out _ _ _ _ _ _ _ _ _ _ _ _ _ _ _ R1d.out R1d'.out R2d.out R2d'.out).mono ?_; rintro e w4 ⟨rfl, hb4⟩; have HB4 := Lib.hid (HB3.out.trans (hb4.mono HB3.out.size)); obtain ⟨x0, x1, x2⟩ := HD.out w4 HB4.out; clear hb4)
      | (go_at_call 26; refine (H4.out _ HB4.out).mono ?_; rintro e w5 ⟨rfl, hb5⟩; have HB5 := Lib.hid (HB4.out.trans (hb5.mono HB4.out.size)); obtain ⟨s0, s1, s2⟩ := HD.out w5 HB5.out; clear hb5))
    go_ret
    exact ⟨rfl, HBA.out.trans (HB5.out.mono HBA.out.size)⟩
  · have H6' : Hid (∀ W, Below wa.heap.size wa W → Calls Try.prog 27 #[.agg #[.slice A cs.length c, .slice A' ws.length c'], .int .i64 k, .func (.func 28) #[] #[]] W fun e w' => e = .returned (.string (nowS cs ws k)) ∧ Below W.heap.size W w') := fun W h => H6.out k W rfl hk hd h
    rw [hd] at H4
    have i1 : (k : Int) < (cs.length : Int) := by omega
    clear H6 hd hk
    generalize nowS cs ws k = s at *
    have g1 : (s.toList == s.toList) = true := beq_self_eq_true _
    go_enter Try.func4, Try.ntmps4
    go_wp2_with (first
      | (go_at_call 22; rw [← HWA.out]; refine (H1.out _ (Below.refl _ _)).mono ?_; rintro e w1 ⟨D, q, d, D', q', d', rfl, r1, r1', hb1⟩; have HB1 := Lib.hid hb1; have R1 := Lib.hid r1; have R1' := Lib.hid r1'; have hb1a := hb1.alloc hb1.size (.cells #[.slice D q d, .slice D' q' d'] 41); have hb1b := hb1a.alloc hb1a.size (.cells #[.int .i64 1, .int .i64 (k : Int), .string t] 46); have HB1b := Lib.hid hb1b; have HN1 := Lib.hid (new2 w1 (.cells #[.slice D q d, .slice D' q' d'] 41) (.cells #[.int .i64 1, .int .i64 (k : Int), .string t] 46)); obtain ⟨u0, u1, u2⟩ := HD.out w1 hb1; clear hb1 r1 r1' hb1a hb1b)
      | (go_at_call 23; refine (H2.out _ _ HB1b.out HN1.out).mono ?_; rintro e w2 ⟨E, p, f, E', p', f', rfl, r2, r2', hb2⟩; have hN1 := row_alloc (row_below (row_alloc (heap_alloc_new w1 (.cells #[.slice D q d, .slice D' q' d'] 41)) (.cells #[.int .i64 1, .int .i64 (k : Int), .string t] 46)) (by simp; omega) hb2) (.cells #[.slice E p f, .slice E' p' f'] 41); have hN2 := heap_alloc_new w2 (.cells #[.slice E p f, .slice E' p' f'] 41); have R1c := Lib.hid (carry_new (rows_on (carry_new (carry_new R1.out (.cells #[.slice D q d, .slice D' q' d'] 41)) (.cells #[.int .i64 1, .int .i64 (k : Int), .string t] 46)) hb2) (.cells #[.slice E p f, .slice E' p' f'] 41)); have R1c' := Lib.hid (carry_new (rows_on (carry_new (carry_new R1'.out (.cells #[.slice D q d, .slice D' q' d'] 41)) (.cells #[.int .i64 1, .int .i64 (k : Int), .string t] 46)) hb2) (.cells #[.slice E p f, .slice E' p' f'] 41)); have R2c := Lib.hid (carry_new r2 (.cells #[.slice E p f, .slice E' p' f'] 41)); have R2c' := Lib.hid (carry_new r2' (.cells #[.slice E p f, .slice E' p' f'] 41)); have hb2' := HB1b.out.trans (hb2.mono HB1b.out.size); have HB2a := Lib.hid (hb2'.alloc hb2'.size (.cells #[.slice E p f, .slice E' p' f'] 41)); obtain ⟨v0, v1, v2⟩ := HD.out w2 hb2'; have HRN1 := Lib.hid hN1; have HRN2 := Lib.hid hN2; clear hb2 r2 r2' hb2' hN1 hN2)
      | (go_at_call 24; refine (H3.out _ HB2a.out).mono ?_; rintro e w3 ⟨rfl, hb3⟩; have hN1 := row_below HRN1.out (row_lt HRN1.out) hb3; have hN2 := row_below HRN2.out (row_lt HRN2.out) hb3; have y0 : w3.cell? ⟨w1.heap.size, 0, none⟩ = some (.slice D q d) := row_cell hN1 0; have y1 : w3.cell? ⟨w1.heap.size, 1, none⟩ = some (.slice D' q' d') := row_cell hN1 1; have z0 : w3.cell? ⟨w2.heap.size, 0, none⟩ = some (.slice E p f) := row_cell hN2 0; have z1 : w3.cell? ⟨w2.heap.size, 1, none⟩ = some (.slice E' p' f') := row_cell hN2 1; have R1d := Lib.hid (rows_on R1c.out hb3); have R1d' := Lib.hid (rows_on R1c'.out hb3); have R2d := Lib.hid (rows_on R2c.out hb3); have R2d' := Lib.hid (rows_on R2c'.out hb3); have HB3 := Lib.hid (HB2a.out.trans (hb3.mono HB2a.out.size)); clear hN1 hN2 hb3)
      | (go_at_call 25; refine (H5.out _ _ _ _ _ _ _ _ _ _ _ _ _ _ _ R1d.out R1d'.out R2d.out R2d'.out).mono ?_; rintro e w4 ⟨rfl, hb4⟩; have HB4 := Lib.hid (HB3.out.trans (hb4.mono HB3.out.size)); obtain ⟨x0, x1, x2⟩ := HD.out w4 HB4.out; clear hb4)
      | (go_at_call 26; refine (H4.out _ HB4.out).mono ?_; rintro e w5 ⟨rfl, hb5⟩; have HB5 := Lib.hid (HB4.out.trans (hb5.mono HB4.out.size)); obtain ⟨s0, s1, s2⟩ := HD.out w5 HB5.out; clear hb5)
      | (go_at_call 27; refine (H6'.out _ HB5.out).mono ?_; rintro e w6 ⟨rfl, hb6⟩))
    go_ret
    exact ⟨rfl, HBA.out.trans ((HB5.out.trans (hb6.mono HB5.out.size)).mono HBA.out.size)⟩
end Go.Proofs.Ytjmgocfoimhmjaa.lDiskWrites
