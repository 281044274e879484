/- The law ImapSets, walked: it returns true for every map, number and place. -/
import Derived.Test.YtjmgocfoimhmjaaSetW
import Derived.Test.YtjmgocfoimhmjaaCutW
import Derived.Test.YtjmgocfoimhmjaaCloneW
import Derived.Test.YtjmgocfoimhmjaaFreshW
import Derived.Test.YtjmgocfoimhmjaaStep
import Derived.Deep.DeepCutAuto
import Derived.Deep.RegionHeld3
namespace Go.Proofs.Ytjmgocfoimhmjaa.lImapSets
open Go.RowKit

theorem keep2d {w0 W : World} {B H : Nat} {u v : Value} (h : W.cell? ⟨B, 0, none⟩ = some u ∧ W.cell? ⟨B, 1, none⟩ = some v ∧ Below H w0 W ∧ H ≤ W.heap.size ∧ B < W.heap.size) : W.drew.cell? ⟨B, 0, none⟩ = some u ∧ W.drew.cell? ⟨B, 1, none⟩ = some v ∧ Below H w0 W.drew ∧ H ≤ W.drew.heap.size ∧ B < W.drew.heap.size := ⟨h.1, h.2.1, h.2.2.1.drew, h.2.2.2⟩
theorem keep2w {w0 W : World} {B H : Nat} {u v : Value} (h : W.cell? ⟨B, 0, none⟩ = some u ∧ W.cell? ⟨B, 1, none⟩ = some v ∧ Below H w0 W ∧ H ≤ W.heap.size ∧ B < W.heap.size) : Below H w0 W := h.2.2.1
theorem keep2b {w0 W W' : World} {B H : Nat} {u v : Value} (h : W.cell? ⟨B, 0, none⟩ = some u ∧ W.cell? ⟨B, 1, none⟩ = some v ∧ Below H w0 W ∧ H ≤ W.heap.size ∧ B < W.heap.size) (hb : Below W.heap.size W W') : W'.cell? ⟨B, 0, none⟩ = some u ∧ W'.cell? ⟨B, 1, none⟩ = some v ∧ Below H w0 W' ∧ H ≤ W'.heap.size ∧ B < W'.heap.size := by
  obtain ⟨h0, h1, h2, h3, h4⟩ := h
  have hz := hb.size
  exact ⟨(hb.cell (p := ⟨B, 0, none⟩) h4).trans h0, (hb.cell (p := ⟨B, 1, none⟩) h4).trans h1, h2.trans (hb.mono h3), by omega, by omega⟩

theorem set_inv {xs : List PlaceD} {gs : List Int} {m : Int} {p : PlaceD} (h : setE xs gs m p = 0) : ImapOk xs gs ∧ ∃ k : Nat, m = k ∧ k < 48 ∧ setX xs gs m p = xs.set k p ∧ setG xs gs m p = gs := by
  have e : impE xs gs = 0 := by
    by_cases hk : impE xs gs = 0
    · exact hk
    · rw [set_form hk] at h; cases h
  have hk : ImapOk xs gs := by
    by_cases hk : ImapOk xs gs
    · exact hk
    · rw [impE_no hk] at e; cases e
  have h2 : ¬ (m < 0 ∨ 48 ≤ m ∨ rightB p.Cell p.Nth = false ∨ p.Cell = 0) := fun hh => by rw [set_arg e hh] at h; cases h
  refine ⟨hk, m.toNat, by omega, by omega, ?_, ?_⟩
  · unfold setX; rw [if_pos h]
  · unfold setG; rw [if_pos h]
theorem cut_inv {xs : List PlaceD} {gs : List Int} {m : Int} (h : cutE xs gs m = 0) : ImapOk xs gs ∧ ∃ k : Nat, ∃ g : Int, m = k ∧ k < 48 ∧ gs[k]? = some g ∧ 0 ≤ g ∧ g ≤ 2147483646 ∧ cutX xs gs m = xs.set k ⟨0, 0⟩ ∧ cutG xs gs m = gs.set k (g + 1) := by
  have e : impE xs gs = 0 := by
    by_cases hk : impE xs gs = 0
    · exact hk
    · rw [cut_form hk] at h; cases h
  have hk : ImapOk xs gs := by
    by_cases hk : ImapOk xs gs
    · exact hk
    · rw [impE_no hk] at e; cases e
  have h2 : ¬ (m < 0 ∨ 48 ≤ m) := fun hh => by rw [cut_arg e hh] at h; cases h
  obtain ⟨k, rfl⟩ : ∃ k : Nat, m = k := ⟨m.toNat, by omega⟩
  have hk48 : k < 48 := by omega
  obtain ⟨g, e2, g0, g1⟩ := getg hk hk48
  obtain ⟨pc, pn, e1⟩ := get48 hk.1 hk48
  have hx : pc ≠ 0 := fun hx => by rw [cut_none e hk48 e1 hx] at h; cases h
  have hg : g ≠ 2147483647 := fun hg => by rw [cut_many e hk48 e1 hx e2 hg] at h; cases h
  exact ⟨hk, k, g, rfl, hk48, e2, g0, by omega, (cut_ok e hk48 e1 hx e2 hg).2⟩
theorem set2 {w : World} {base n d g1 off1 k : Nat} {xs : List PlaceD} {pc pn : Int} (x y : Int) (E1 : xs[k]? = some (⟨pc, pn⟩ : PlaceD)) (q1 : Owns w base 2 (.slice (some ⟨g1, off1, none⟩) n d) n (xs.flatMap PlaceD.cells)) :
    w.cell? ⟨g1, off1 + k * 2, none⟩ = some (.int .i64 pc) ∧ w.frozen? ⟨g1, off1 + k * 2, none⟩ = false ∧ (w.setCell ⟨g1, off1 + k * 2, none⟩ (.int .i64 x)).cell? ⟨g1, off1 + k * 2 + 1, none⟩ = some (.int .i64 pn) ∧ w.frozen? ⟨g1, off1 + k * 2 + 1, none⟩ = false ∧ w.cell? ⟨g1, off1 + k * 2 + 1, none⟩ = some (.int .i64 pn) ∧ Owns ((w.setCell ⟨g1, off1 + k * 2, none⟩ (.int .i64 x)).setCell ⟨g1, off1 + k * 2 + 1, none⟩ (.int .i64 y)) base 2 (.slice (some ⟨g1, off1, none⟩) n d) n ((xs.set k ⟨x, y⟩).flatMap PlaceD.cells) := by
  have e1 : (xs.flatMap PlaceD.cells)[k * 2]? = some (.int .i64 pc) := by
    have := flat_at (enc := PlaceD.cells) (k := 2) (fun _ => rfl) xs k _ E1 0 (.int .i64 pc) rfl
    simpa using this
  have e2 : (xs.flatMap PlaceD.cells)[k * 2 + 1]? = some (.int .i64 pn) := flat_at (enc := PlaceD.cells) (k := 2) (fun _ => rfl) xs k _ E1 1 (.int .i64 pn) rfl
  obtain ⟨c1, f1⟩ := q1.here e1
  obtain ⟨c2, f2⟩ := q1.here e2
  rw [← Nat.add_assoc] at c2 f2
  have n12 : (⟨g1, off1 + k * 2, none⟩ : Addr) ≠ ⟨g1, off1 + k * 2 + 1, none⟩ := fun e => by injection e with _ e; omega
  have s1 := (q1.set (k * 2) (.int .i64 x)).set (k * 2 + 1) (.int .i64 y)
  rw [← Nat.add_assoc] at s1
  refine ⟨c1, f1, (World.cell?_setCell_other _ _ _ _ n12).trans c2, f2, c2, ?_⟩
  have := flat_set xs k ⟨x, y⟩
  simp only at this
  rw [← this]; exact s1
theorem set1 {w : World} {base n d g1 off1 k : Nat} {gs : List Int} {g : Int} (y : Int) (E1 : gs[k]? = some g) (q1 : Owns w base 1 (.slice (some ⟨g1, off1, none⟩) n d) n (gs.map (Value.int .i64))) :
    w.cell? ⟨g1, off1 + k, none⟩ = some (.int .i64 g) ∧ w.frozen? ⟨g1, off1 + k, none⟩ = false ∧ Owns (w.setCell ⟨g1, off1 + k, none⟩ (.int .i64 y)) base 1 (.slice (some ⟨g1, off1, none⟩) n d) n ((gs.set k y).map (Value.int .i64)) := by
  have e1 : (gs.map (Value.int .i64))[k]? = some (.int .i64 g) := by rw [List.getElem?_map, E1]; rfl
  obtain ⟨c1, f1⟩ := q1.here e1
  refine ⟨c1, f1, ?_⟩
  have s1 := q1.set k (.int .i64 y)
  rw [List.map_set]; exact s1
def Keep1 (Y : Nat) (w w' : World) : Prop := (∀ b, b < w.heap.size → b ≠ Y → w'.heap[b]? = w.heap[b]?) ∧ w.heap.size ≤ w'.heap.size
theorem Keep1.of {Y B : Nat} {w w' : World} (h : Below B w w') (hB : w.heap.size ≤ B) : Keep1 Y w w' := ⟨fun b hb _ => h.block b (by omega), h.size⟩
theorem Keep1.trans {Y : Nat} {w w' w2 : World} (h : Keep1 Y w w') (h' : Keep1 Y w' w2) : Keep1 Y w w2 := ⟨fun b hb hn => (h'.1 b (Nat.lt_of_lt_of_le hb h.2) hn).trans (h.1 b hb hn), Nat.le_trans h.2 h'.2⟩
theorem Keep1.set {Y : Nat} {w w' : World} (h : Keep1 Y w w') (p : Addr) (u : Value) (hp : p.block = Y ∨ w.heap.size ≤ p.block) : Keep1 Y w (w'.setCell p u) :=
  ⟨fun b hb hn => (heap_setCell_other w' p b u (by rcases hp with h | h; exact fun e => hn (e.trans h); exact fun e => by rw [e] at hb; omega)).trans (h.1 b hb hn), by have := h.2; simpa [World.setCell] using this⟩
theorem Keep1.rows {α : Type} {enc : α → List Value} {k n c Y B : Nat} {A : Option Addr} {xs : List α} {w w' : World} (h : Keep1 Y w w') (r : RowsIn w B A n c enc k xs) (hB : B ≤ w.heap.size) (hn : ∀ a, A = some a → a.block ≠ Y) : RowsIn w' w'.heap.size A n c enc k xs :=
  ⟨r.len, r.le, r.top, fun i x hx => by
    obtain ⟨b, o, e, hb, hc⟩ := r.at_ i x hx
    have h2 := h.2
    refine ⟨b, o, e, by omega, fun j u hu => ?_⟩
    exact (World.cell?_of_block (w := w) (h.1 b (by omega) (hn _ e))).trans (hc j u hu)⟩
def PX (X Y : Nat) (t : TypeId) (SX : List PlaceD) (SG : List Int) (w w' : World) : Prop := ∃ D q d D' q' d', w'.heap[X]? = some (.cells #[.slice D q d, .slice D' q' d'] t (0, 0)) ∧ RowsIn w' w'.heap.size D q d PlaceD.cells 2 SX ∧ RowsIn w' w'.heap.size D' q' d' (fun z => [.int .i64 z]) 1 SG ∧ (∀ a, D = some a → a.block ≠ Y) ∧ (∀ a, D' = some a → a.block ≠ Y) ∧ w'.heap[Y]? = some (.cells zeroImap t (0, 0)) ∧ Below w.heap.size w w' ∧ Y < w'.heap.size
def PY (Y B : Nat) (t : TypeId) (CX : List PlaceD) (CG : List Int) (w0 w w' : World) : Prop := ∃ D q d D' q' d', w'.heap[Y]? = some (.cells #[.slice D q d, .slice D' q' d'] t (0, 0)) ∧ RowsIn w' w'.heap.size D q d PlaceD.cells 2 CX ∧ RowsIn w' w'.heap.size D' q' d' (fun z => [.int .i64 z]) 1 CG ∧ Keep1 Y w w' ∧ Below B w0 w'

set_option maxRecDepth 20000 in
set_option maxHeartbeats 2000000 in
theorem walk (A : Option Addr) (n c : Nat) (xs : List PlaceD) (A' : Option Addr) (n' c' : Nat) (gs : List Int) (m : Int) (a2 : PlaceD) (w : World) (r : RowsIn w w.heap.size A n c PlaceD.cells 2 xs) (_o0 : ∀ z ∈ xs, PlaceD.ok z) (_s0 : c * 16 ≤ 140737488351232) (r' : RowsIn w w.heap.size A' n' c' (fun z => [.int .i64 z]) 1 gs) (_o1 : ∀ z ∈ gs, (fun z => (Lit.int .i64 z).wf = true) z) (_s1 : c' * 8 ≤ 140737488351232) (_w1 : (Lit.int .i64 m).wf = true) (_w2 : a2.ok) :
    Calls Try.prog 3 #[.agg #[.slice A n c, .slice A' n' c'], .int .i64 m, .agg #[.int .i64 a2.Cell, .int .i64 a2.Nth]] w fun e w' => e = .returned (.bool true) ∧ Below w.heap.size w w' := by
  clear _o0 _s0 _o1 _s1 _w1 _w2
  obtain ⟨pc, pn⟩ := a2
  show Calls Try.prog 3 #[.agg #[.slice A n c, .slice A' n' c'], .int .i64 m, .agg #[.int .i64 pc, .int .i64 pn]] w _
  obtain ⟨wa, hwa⟩ : ∃ wa, wa = (w.alloc (.cells #[.slice A n c, .slice A' n' c'] 25)).alloc (.cells #[.int .i64 pc, .int .i64 pn] 27) := ⟨_, rfl⟩
  have hza : wa.heap.size = w.heap.size + 2 := by rw [hwa]; simp
  have hba : Below w.heap.size w wa := by rw [hwa]; exact ((Below.refl _ _).alloc (Nat.le_refl _) _).alloc (by simp) _
  have hrp : wa.heap[w.heap.size + 1]? = some (.cells #[.int .i64 pc, .int .i64 pn] 27 (0, 0)) := by
    rw [hwa]
    have := heap_alloc_new (w.alloc (.cells #[.slice A n c, .slice A' n' c'] 25)) (.cells #[.int .i64 pc, .int .i64 pn] 27)
    rw [show (w.alloc (.cells #[.slice A n c, .slice A' n' c'] 25)).heap.size = w.heap.size + 1 by simp] at this
    exact this
  have hrb : wa.heap[w.heap.size]? = some (.cells #[.slice A n c, .slice A' n' c'] 25 (0, 0)) := by
    rw [hwa]; exact (heap_alloc_old _ _ (by simp)).trans (heap_alloc_new w _)
  have hle : w.heap.size ≤ wa.heap.size := by omega
  have ra := Lib.hid ((r.below hba).more hle)
  have ra' := Lib.hid ((r'.below hba).more hle)
  have HC : Hid (∀ W, Below wa.heap.size wa W → W.cell? ⟨w.heap.size, 0, none⟩ = some (.slice A n c) ∧ W.cell? ⟨w.heap.size, 1, none⟩ = some (.slice A' n' c') ∧ W.cell? ⟨w.heap.size + 1, 0, none⟩ = some (.int .i64 pc) ∧ W.cell? ⟨w.heap.size + 1, 1, none⟩ = some (.int .i64 pn) ∧ w.heap.size < W.heap.size ∧ w.heap.size + 1 < W.heap.size) := fun W h => by
    have q0 := row_below hrb (show w.heap.size < wa.heap.size by omega) h
    have q1 := row_below hrp (show w.heap.size + 1 < wa.heap.size by omega) h
    exact ⟨row_cell q0 0, row_cell q0 1, row_cell q1 0, row_cell q1 1, row_lt q0, row_lt q1⟩
  have H1 : Hid (∀ W, Below wa.heap.size wa W → Calls Try.prog 15 #[.agg #[.slice A n c, .slice A' n' c'], .int .i64 m, .agg #[.int .i64 pc, .int .i64 pn]] W (IpPost (setE xs gs m ⟨pc, pn⟩) (setX xs gs m ⟨pc, pn⟩) (setG xs gs m ⟨pc, pn⟩) W)) := fun W h => set_any A n c xs A' n' c' gs m pc pn W ((ra.out.below h).more h.size) ((ra'.out.below h).more h.size)
  have H2 : Hid (∀ W, Below wa.heap.size wa W → Calls Try.prog 16 #[.agg #[.slice A n c, .slice A' n' c'], .int .i64 m] W (IpPost (cutE xs gs m) (cutX xs gs m) (cutG xs gs m) W)) := fun W h => cut_any A n c xs A' n' c' gs m W ((ra.out.below h).more h.size) ((ra'.out.below h).more h.size)
  have H3 : Hid (∀ W, Below wa.heap.size wa W → Calls Try.prog 17 #[.agg #[.slice A n c, .slice A' n' c']] W fun e w' => e = .returned (.int .i64 (impE xs gs)) ∧ Below W.heap.size W w') := fun W h => imapr_any A n c xs A' n' c' gs W ((ra.out.below h).more h.size) ((ra'.out.below h).more h.size)
  have H4 : Hid (∀ W, Calls Try.prog 18 #[.agg #[.int .i64 pc, .int .i64 pn]] W fun e w' => e = .returned (.bool (rightB pc pn)) ∧ Below W.heap.size W w') := fun W => (rightr_any pc pn W).mono fun _ _ ⟨he, hw⟩ => ⟨he, hw ▸ (Below.refl _ _).alloc (Nat.le_refl _) _⟩
  unfold IpPost at H1 H2
  have HIE := Lib.hid (Eq.refl (impE xs gs))
  have HSE := Lib.hid (Eq.refl (setE xs gs m ⟨pc, pn⟩))
  have HCE := Lib.hid (Eq.refl (cutE xs gs m))
  revert HIE HSE HCE
  generalize hIE : impE xs gs = ie at H3
  generalize hSE : setE xs gs m ⟨pc, pn⟩ = se at H1
  generalize hCE : cutE xs gs m = ce at H2
  have HIE := Lib.hid hIE
  have HSE := Lib.hid hSE
  have HCE := Lib.hid hCE
  clear hIE hSE hCE
  intro _ _ _
  have HWA := Lib.hid hwa
  have HBA := Lib.hid hba
  have HZA := Lib.hid hza
  clear r r' hwa hza hba hrp hrb hle
  go_enter Try.func3, Try.ntmps3
  go_wp2_with (first
    | (go_at_call 15; rw [← HWA.out]; refine (H1.out _ (Below.refl _ _)).mono ?_; rintro e w1 ⟨D1, q1, d1, D1', q1', d1', rfl, r1, r1', hb1⟩; have R1 := Lib.hid r1; have R1' := Lib.hid r1'; have HB1 := Lib.hid hb1; have HB1a := Lib.hid (hb1.alloc hb1.size (.cells #[.slice D1 q1 d1, .slice D1' q1' d1'] 25)); obtain ⟨u0, u1, u2, u3, u4, u5⟩ := HC.out w1 hb1; clear hb1 r1 r1')
    | (go_at_call 16; refine (H2.out _ HB1a.out).mono ?_; rintro e w2 ⟨D2, q2, d2, D2', q2', d2', rfl, r2, r2', hb2⟩; have R2 := Lib.hid r2; have R2' := Lib.hid r2'; have HB2 := Lib.hid hb2; have HB2a := Lib.hid (HB1a.out.trans (hb2.mono HB1a.out.size)); clear hb2 r2 r2'))
  have hB3 := HB2a.out.alloc HB2a.out.size (.cells #[.slice D2 q2 d2, .slice D2' q2' d2'] 25)
  obtain ⟨w3, hw3⟩ : ∃ w3, w3 = w2.alloc (.cells #[.slice D2 q2 d2, .slice D2' q2' d2'] 25) := ⟨_, rfl⟩
  have R1b := Lib.hid (carry_rows R1.out HB2.out (.cells #[.slice D2 q2 d2, .slice D2' q2' d2'] 25))
  have R1b' := Lib.hid (carry_rows R1'.out HB2.out (.cells #[.slice D2 q2 d2, .slice D2' q2' d2'] 25))
  have R2b := Lib.hid (carry_new R2.out (.cells #[.slice D2 q2 d2, .slice D2' q2' d2'] 25))
  have R2b' := Lib.hid (carry_new R2'.out (.cells #[.slice D2 q2 d2, .slice D2' q2' d2'] 25))
  have hN1 := row_alloc (row_below (heap_alloc_new w1 (.cells #[.slice D1 q1 d1, .slice D1' q1' d1'] 25)) (by simp) HB2.out) (.cells #[.slice D2 q2 d2, .slice D2' q2' d2'] 25)
  have hN2 := heap_alloc_new w2 (.cells #[.slice D2 q2 d2, .slice D2' q2' d2'] 25)
  have hB3b := carry_below HB1.out HB2.out (.cells #[.slice D2 q2 d2, .slice D2' q2' d2'] 25)
  rw [← hw3] at R1b R1b' R2b R2b' hN1 hN2 hB3b hB3
  rw [← hw3]
  have HN1 := Lib.hid hN1
  have HN2 := Lib.hid hN2
  have HB3 := Lib.hid hB3
  obtain ⟨u0, u1, u2, u3, u4, u5⟩ := HC.out w3 hB3
  have hs : w3.cell? ⟨w.heap.size, 0, none⟩ = some (.slice A n c) ∧ w3.cell? ⟨w.heap.size, 1, none⟩ = some (.slice A' n' c') ∧ Below w3.heap.size w3 w3 ∧ w3.heap.size ≤ w3.heap.size ∧ w.heap.size < w3.heap.size := ⟨u0, u1, Below.refl _ _, Nat.le_refl _, u4⟩
  clear hw3 hB3 hB3b u0 u1 u2 u3 u4 u5 R1 R1' R2 R2' HB1 HB2 HB1a HB2a hN1 hN2
  go_region_held3 (fun W => W.cell? ⟨w.heap.size, 0, none⟩ = some (.slice A n c) ∧ W.cell? ⟨w.heap.size, 1, none⟩ = some (.slice A' n' c') ∧ Below w3.heap.size w3 W ∧ w3.heap.size ≤ W.heap.size ∧ w.heap.size < W.heap.size)
    (first | assumption | exact keep2d (by assumption) | exact keep2b (by assumption) (by assumption))
    ((go_at_call 17; refine (H3.out _ ?_).mono ?_; (exact HB3.out.trans ((keep2w (by assumption)).mono HB3.out.size)); rintro e w9 ⟨rfl, hb⟩))
  rename_i hHeld
  have hb4 := keep2w hHeld
  have hz4 := hb4.size
  have HB4 := Lib.hid (HB3.out.trans (hb4.mono HB3.out.size))
  have HN1b := Lib.hid (row_below HN1.out (row_lt HN1.out) hb4)
  have HN2b := Lib.hid (row_below HN2.out (row_lt HN2.out) hb4)
  have R1c := Lib.hid ((R1b.out.below hb4).more hz4)
  have R1c' := Lib.hid ((R1b'.out.below hb4).more hz4)
  have R2c := Lib.hid ((R2b.out.below hb4).more hz4)
  have R2c' := Lib.hid ((R2b'.out.below hb4).more hz4)
  clear hHeld hb4 hz4 hs HB3 HN1 HN2 R1b R1b' R2b R2b' u4 u5 hb
  go_upto_if 33 with fail
  go_cut [11, 12] (fun s11 s12 wx => s11 = .int .i64 se ∧ s12 = .int .i64 ce ∧ Below w9.heap.size w9 wx)
  case first =>
    obtain ⟨v0, v1, v2, v3, v4, v5⟩ := HC.out w9 HB4.out
    by_cases hk : ImapOk xs gs
    · have hie := impE_ok hk
      obtain rfl : ie = 0 := HIE.out.symm.trans hie
      have hlen := ra.out.len
      have hlen' := ra'.out.len
      rw [hk.1] at hlen
      rw [hk.2.1] at hlen'
      subst hlen
      subst hlen'
      have HX := Lib.hid hk.1
      have HK := Lib.hid hk
      have HI0 := Lib.hid hie
      clear hk hie
      have hp : (rightB pc pn = false ∧ ∀ k : Nat, m = k → k < 48 → se = 1) ∨ (rightB pc pn = true ∧ pc = 0 ∧ ∀ k : Nat, m = k → k < 48 → se = 1) ∨ (rightB pc pn = true ∧ pc ≠ 0 ∧ ∀ k : Nat, m = k → k < 48 → se = 0) := by
        have HSE' := HSE.out
        by_cases h1 : rightB pc pn = false
        · exact .inl ⟨h1, fun k hk hk2 => HSE'.symm.trans (set_arg HI0.out (.inr (.inr (.inl h1))))⟩
        · have h1' : rightB pc pn = true := by cases h : rightB pc pn; exact absurd h h1; rfl
          by_cases h2 : pc = 0
          · exact .inr (.inl ⟨h1', h2, fun k hk hk2 => HSE'.symm.trans (set_arg HI0.out (.inr (.inr (.inr h2))))⟩)
          · exact .inr (.inr ⟨h1', h2, fun k hk hk2 => by subst hk; exact HSE'.symm.trans (set_ok HI0.out hk2 h1' h2).1⟩)
      have hm : (m < 0 ∧ se = 1 ∧ ce = 1) ∨ (0 ≤ m ∧ 47 < m ∧ se = 1 ∧ ce = 1) ∨ (∃ k : Nat, m = k ∧ k < 48) := by
        by_cases h : m < 0
        · exact .inl ⟨h, HSE.out.symm.trans (set_arg HI0.out (.inl h)), HCE.out.symm.trans (cut_arg HI0.out (.inl h))⟩
        · by_cases h2 : 47 < m
          · exact .inr (.inl ⟨by omega, h2, HSE.out.symm.trans (set_arg HI0.out (.inr (.inl (by omega)))), HCE.out.symm.trans (cut_arg HI0.out (.inr (by omega)))⟩)
          · exact .inr (.inr ⟨m.toNat, by omega, by omega⟩)
      rcases hp with ⟨hr, hse⟩ | ⟨hr, h0, hse⟩ | ⟨hr, h0, hse⟩
      all_goals (try (subst h0))
      all_goals (try (have h0 : (pc == 0) = false := beq_eq_false_iff_ne.2 h0))
      all_goals (rw [hr] at H4)
      all_goals
        have HSK := Lib.hid hse
        clear hse hr
        rcases hm with ⟨h, rfl, rfl⟩ | ⟨hm0, hm1, rfl, rfl⟩ | ⟨k, rfl, hk48⟩
        · clear HSK
          go_wp2_with (go_at_call 18; refine (H4.out _).mono ?_; rintro e w6 ⟨rfl, hb6⟩; have x2 := on_b v2 v5 hb6)
          go_meet
          case rel => exact ⟨rfl, rfl, hb6⟩
        · clear HSK
          go_wp2_with (go_at_call 18; refine (H4.out _).mono ?_; rintro e w6 ⟨rfl, hb6⟩; have x2 := on_b v2 v5 hb6)
          go_meet
          case rel => exact ⟨rfl, rfl, hb6⟩
        · have i1 : (k : Int) ≤ 47 := by omega
          obtain rfl := HSK.out k rfl hk48
          obtain ⟨xc, xn, e1⟩ : ∃ pc pn, xs[k]? = some (⟨pc, pn⟩ : PlaceD) := get48 HX.out hk48
          obtain ⟨g, e2, gb0, gb1⟩ := getg HK.out hk48
          have E1 := Lib.hid e1
          have E2 := Lib.hid e2
          obtain ⟨b, o, rfl, hbB, hc⟩ := ra.out.at_ k _ e1
          obtain ⟨b', o', rfl, hbB', hc'⟩ := ra'.out.one e2
          have hp0 : w9.cell? ⟨b, o + k * 2, none⟩ = some (.int .i64 xc) := (HB4.out.cell (p := ⟨b, o + k * 2, none⟩) hbB).trans (by simpa using hc 0 _ rfl)
          have hp1 : w9.cell? ⟨b', o' + k, none⟩ = some (.int .i64 g) := (HB4.out.cell (p := ⟨b', o' + k, none⟩) hbB').trans hc'
          clear hc hc' e1 e2 HSK hbB hbB'
          by_cases hx0 : xc = 0
          · subst hx0
            obtain rfl : ce = 12 := HCE.out.symm.trans (cut_none HI0.out hk48 E1.out rfl)
            go_wp2_with (go_at_call 18; refine (H4.out _).mono ?_; rintro e w6 ⟨rfl, hb6⟩; have x2 := on_b v2 v5 hb6)
            go_meet
            case rel => exact ⟨rfl, rfl, hb6⟩
          · have gx : (xc == 0) = false := beq_eq_false_iff_ne.2 hx0
            by_cases hg : g = 2147483647
            · subst hg
              obtain rfl : ce = 10 := HCE.out.symm.trans (cut_many HI0.out hk48 E1.out hx0 E2.out rfl)
              clear hx0
              go_wp2_with (go_at_call 18; refine (H4.out _).mono ?_; rintro e w6 ⟨rfl, hb6⟩; have x2 := on_b v2 v5 hb6)
              go_meet
              case rel => exact ⟨rfl, rfl, hb6⟩
            · have gg : (g == 2147483647) = false := beq_eq_false_iff_ne.2 hg
              obtain rfl : ce = 0 := HCE.out.symm.trans (cut_ok HI0.out hk48 E1.out hx0 E2.out hg).1
              clear hx0 hg
              go_wp2_with (go_at_call 18; refine (H4.out _).mono ?_; rintro e w6 ⟨rfl, hb6⟩; have x2 := on_b v2 v5 hb6)
              go_meet
              case rel => exact ⟨rfl, rfl, hb6⟩
    · have hie := impE_no hk
      obtain rfl : ie = 4 := HIE.out.symm.trans hie
      obtain rfl : se = 4 := HSE.out.symm.trans (set_form (by rw [hie]; decide))
      obtain rfl : ce = 4 := HCE.out.symm.trans (cut_form (by rw [hie]; decide))
      clear hk hie
      go_wp2_with fail
      go_meet
      case rel => exact ⟨rfl, rfl, Below.refl _ _⟩
  case rest =>
    obtain ⟨rfl, rfl, hb5⟩ := hcut
    obtain ⟨w5, rfl⟩ : ∃ z : World, z = wc := ⟨_, rfl⟩
    have HB5 := Lib.hid (HB4.out.trans (hb5.mono HB4.out.size))
    have HN1c := Lib.hid (row_below HN1b.out (row_lt HN1b.out) hb5)
    have HN2c := Lib.hid (row_below HN2b.out (row_lt HN2b.out) hb5)
    have R1d := Lib.hid ((R1c.out.below hb5).more hb5.size)
    have R1d' := Lib.hid ((R1c'.out.below hb5).more hb5.size)
    have R2d := Lib.hid ((R2c.out.below hb5).more hb5.size)
    have R2d' := Lib.hid ((R2c'.out.below hb5).more hb5.size)
    clear hb5 HB4 HN1b HN2b R1c R1c' R2c R2c'
    obtain ⟨wd, hwd⟩ : ∃ wd, wd = (w5.alloc (.cells zeroImap 25)).alloc (.cells zeroImap 25) := ⟨_, rfl⟩
    have hdz : wd.heap.size = w5.heap.size + 2 := by rw [hwd]; simp
    have hdb : Below w5.heap.size w5 wd := by rw [hwd]; exact ((Below.refl _ _).alloc (Nat.le_refl _) _).alloc (by simp) _
    have hX : wd.heap[w5.heap.size]? = some (.cells zeroImap 25 (0, 0)) := by
      rw [hwd]; exact row_alloc (heap_alloc_new w5 _) _
    have hY : wd.heap[w5.heap.size + 1]? = some (.cells zeroImap 25 (0, 0)) := by
      rw [hwd]
      have := heap_alloc_new (w5.alloc (.cells zeroImap 25)) (.cells zeroImap 25)
      rw [show (w5.alloc (.cells zeroImap 25)).heap.size = w5.heap.size + 1 by simp] at this
      exact this
    have HWD := Lib.hid hwd
    have HDZ := Lib.hid hdz
    have HDB := Lib.hid hdb
    have HX := Lib.hid hX
    have HY := Lib.hid hY
    clear hwd hdz hdb hX hY
    go_upto_if 65 with fail
    rw [← HWD.out]
    go_cut [] (fun wx => PX w5.heap.size (w5.heap.size + 1) 25 (setX xs gs m ⟨pc, pn⟩) (setG xs gs m ⟨pc, pn⟩) w5 wx)
    case first =>
      by_cases hse : se = 0
      · subst hse
        obtain ⟨hk, k, rfl, hk48, e1, e2⟩ := set_inv HSE.out
        have hlen := ra.out.len
        have hlen' := ra'.out.len
        rw [hk.1] at hlen
        have HN' : Hid (0 < n') := by rw [hk.2.1] at hlen'; simp only [Hid]; omega
        subst hlen
        clear hlen'
        obtain ⟨xc, xn, ex⟩ : ∃ pc pn, xs[k]? = some (⟨pc, pn⟩ : PlaceD) := get48 hk.1 hk48
        have EX := Lib.hid ex
        have E1 := Lib.hid e1
        have E2 := Lib.hid e2
        have i1 : (k : Int) < 48 := by omega
        have HBD := Lib.hid (HB5.out.trans (HDB.out.mono HB5.out.size))
        have HCL : Hid (∀ W, Below wa.heap.size wa W → Calls Try.prog 19 #[.slice A 48 c] W fun e w' => ∃ b : Option Addr × Nat, e = .returned (.slice b.1 48 b.2) ∧ (Owns w' W.heap.size 2 (.slice b.1 48 b.2) 48 (xs.flatMap PlaceD.cells) ∧ Below W.heap.size W w')) := fun W h => (clonep_any A 48 c xs W.heap.size W ((ra.out.below h).more h.size) (Nat.le_refl _) (by decide) (by decide)).mono fun e w' ⟨D, d, h1, h2⟩ => ⟨(D, d), h1, h2⟩
        obtain ⟨v0, v1, v2, v3, v4, v5⟩ := HC.out wd HBD.out
        clear hk e1 e2 ex
        go_wp2_with fail
        go_region_law
          (first
            | (refine step_enterx rfl 19 #[.slice A 48 c] (fun b : Option Addr × Nat => Value.slice b.1 48 b.2) (by simp [go_sem]) (HCL.out wd.drew HBD.out.drew) ?_; rintro ⟨D, d⟩ w6 ⟨o6, hb6⟩; have HXr := row_below (w := wd.drew) HX.out (row_lt HX.out) hb6; have y0 : w6.cell? ⟨w5.heap.size, 0, none⟩ = some (.slice none 0 0) := row_cell HXr 0; have y1 : w6.cell? ⟨w5.heap.size, 1, none⟩ = some (.slice none 0 0) := row_cell HXr 1; have y2 := row_cold HXr 0; have y3 := row_cold HXr 1; obtain ⟨z0, z1, z2, z3, z4, z5⟩ := HC.out w6 (HBD.out.drew.trans (hb6.mono HBD.out.size))))
        all_goals
          have o6' : Owns w6 wd.heap.size 2 (.slice D 48 d) 48 (xs.flatMap PlaceD.cells) := o6
          obtain ⟨g1, off1, hD, h11, h12⟩ := own_some o6' (by decide)
          have hgX : g1 ≠ w5.heap.size := by have := HDZ.out; omega
          have hgY : g1 ≠ w5.heap.size + 1 := by have := HDZ.out; omega
          have hXY : w5.heap.size + 1 ≠ w5.heap.size := by omega
          have hYr := row_below (w := wd.drew) HY.out (row_lt HY.out) hb6
          have X7 := Lib.hid (row_store (j := 1) (v := .slice A' n' c') (row_store (j := 0) (v := .slice D 48 d) HXr))
          have Y7 := Lib.hid (row_other (a := ⟨w5.heap.size, 1, none⟩) (v := .slice A' n' c') (row_other (a := ⟨w5.heap.size, 0, none⟩) (v := .slice D 48 d) hYr hXY) hXY)
          have O7 := Lib.hid ((o6'.setOther (p := ⟨w5.heap.size, 0, none⟩) (fun e => by have e2 : wd.heap.size ≤ w5.heap.size := (o6'.lt _ e).1; have := HDZ.out; omega) (.slice D 48 d)).setOther (p := ⟨w5.heap.size, 1, none⟩) (fun e => by have e2 : wd.heap.size ≤ w5.heap.size := (o6'.lt _ e).1; have := HDZ.out; omega) (.slice A' n' c'))
          have B7 := Lib.hid ((((HDB.out.drew.trans (hb6.mono HDB.out.size)).setCell (p := ⟨w5.heap.size, 0, none⟩) (Nat.le_refl _) (.slice D 48 d))).setCell (p := ⟨w5.heap.size, 1, none⟩) (Nat.le_refl _) (.slice A' n' c'))
          clear y0 y1 y2 y3 z0 z1 z2 z3 z4 z5 hb6 o6 o6' HXr hYr v0 v1 v2 v3 v4 v5
          generalize (w6.setCell ⟨w5.heap.size, 0, none⟩ (.slice D 48 d)).setCell ⟨w5.heap.size, 1, none⟩ (.slice A' n' c') = w7 at *
          subst hD
          have S2 := Lib.hid (set2 pc pn EX.out O7.out)
          obtain ⟨c1, f1, c2, f2, n2, _⟩ := S2.out
          have a0 : w7.cell? ⟨w5.heap.size, 0, none⟩ = some (.slice (some ⟨g1, off1, none⟩) 48 d) := row_cell X7.out 0
          obtain ⟨v0, v1, v2, v3, v4, v5⟩ := HC.out w7 (HB5.out.trans (B7.out.mono HB5.out.size))
          have X8 := Lib.hid (row_other (a := ⟨g1, off1 + k * 2 + 1, none⟩) (v := .int .i64 pn) (row_other (a := ⟨g1, off1 + k * 2, none⟩) (v := .int .i64 pc) X7.out (Ne.symm hgX)) (Ne.symm hgX))
          have Y8 := Lib.hid (row_other (a := ⟨g1, off1 + k * 2 + 1, none⟩) (v := .int .i64 pn) (row_other (a := ⟨g1, off1 + k * 2, none⟩) (v := .int .i64 pc) Y7.out (Ne.symm hgY)) (Ne.symm hgY))
          have B8 := Lib.hid ((B7.out.setCell (p := ⟨g1, off1 + k * 2, none⟩) (show w5.heap.size ≤ g1 by have := HDZ.out; omega) (.int .i64 pc)).setCell (p := ⟨g1, off1 + k * 2 + 1, none⟩) (show w5.heap.size ≤ g1 by have := HDZ.out; omega) (.int .i64 pn))
          go_wp2_with fail
          go_meet
          case rel =>
            have hA : ∀ a : Addr, A' = some a → a.block ≠ w5.heap.size + 1 := fun a ha e => by
              obtain ⟨b', o', e2, hb'⟩ := rows_some ra'.out (by have := HN'.out; omega)
              rw [e2] at ha; injection ha with ha; subst ha
              have := HB5.out.size
              simp only at e; omega
            have hbw := HB5.out.trans (B8.out.mono HB5.out.size)
            refine ⟨some ⟨g1, off1, none⟩, 48, d, A', n', c', X8.out, ?_, ?_, fun a ha => by injection ha with ha; rw [← ha]; exact hgY, hA, Y8.out, B8.out, row_lt Y8.out⟩
            · rw [E1.out]; exact S2.out.2.2.2.2.2.rows place_two2 (by omega)
            · rw [E2.out]; exact (ra'.out.below hbw).more hbw.size
      · obtain ⟨e1, e2⟩ := set_bad HSE.out hse
        have E : Hid (PX w5.heap.size (w5.heap.size + 1) 25 (setX xs gs m ⟨pc, pn⟩) (setG xs gs m ⟨pc, pn⟩) w5 wd) := ⟨none, 0, 0, none, 0, 0, HX.out, by rw [e1]; exact no_places _ _, by rw [e2]; exact no_intsI _ _, (fun a h => by cases h), (fun a h => by cases h), HY.out, HDB.out, row_lt HY.out⟩
        have g0 : (se == 0) = false := beq_eq_false_iff_ne.2 hse
        clear e1 e2 hse
        go_wp2_with fail
        go_meet
        case rel => exact E.out
    case rest =>
      obtain ⟨G1, p1, k1, G1', p1', k1', hX, rx, rx', nx, nx', hY, hbx, hzY⟩ := hcut
      obtain ⟨w6, rfl⟩ : ∃ z : World, z = wc := ⟨_, rfl⟩
      have HX6 := Lib.hid hX
      have HY6 := Lib.hid hY
      have RX6 := Lib.hid rx
      have RX6' := Lib.hid rx'
      have NX6 := Lib.hid nx
      have NX6' := Lib.hid nx'
      have B6 := Lib.hid hbx
      have HB6 := Lib.hid (HB5.out.trans (hbx.mono HB5.out.size))
      have HN1l := row_lt HN1c.out
      have HN2l := row_lt HN2c.out
      clear hX hY rx rx' nx nx' hbx hzY HX HY HWD HDZ HDB
      go_upto_if 78 with fail
      go_cut [] (fun wx => PY (w5.heap.size + 1) w5.heap.size 25 (cutX xs gs m) (cutG xs gs m) w5 w6 wx)
      case first =>
        by_cases hce : ce = 0
        · subst hce
          obtain ⟨hk, k, g, rfl, hk48, eg, gb0, gb1, e1, e2⟩ := cut_inv HCE.out
          have hlen := ra.out.len
          have hlen' := ra'.out.len
          rw [hk.1] at hlen
          rw [hk.2.1] at hlen'
          subst hlen
          subst hlen'
          obtain ⟨xc, xn, ex⟩ : ∃ pc pn, xs[k]? = some (⟨pc, pn⟩ : PlaceD) := get48 hk.1 hk48
          have EX := Lib.hid ex
          have EG := Lib.hid eg
          have E1 := Lib.hid e1
          have E2 := Lib.hid e2
          have i1 : (k : Int) < 48 := by omega
          have HCL : Hid (∀ W, Below wa.heap.size wa W → Calls Try.prog 19 #[.slice A 48 c] W fun e w' => ∃ b : Option Addr × Nat, e = .returned (.slice b.1 48 b.2) ∧ (Owns w' W.heap.size 2 (.slice b.1 48 b.2) 48 (xs.flatMap PlaceD.cells) ∧ Below W.heap.size W w')) := fun W h => (clonep_any A 48 c xs W.heap.size W ((ra.out.below h).more h.size) (Nat.le_refl _) (by decide) (by decide)).mono fun e w' ⟨D, d, h1, h2⟩ => ⟨(D, d), h1, h2⟩
          have HCI : Hid (∀ W, Below wa.heap.size wa W → Calls Try.prog 20 #[.slice A' 48 c'] W fun e w' => ∃ b : Option Addr × Nat, e = .returned (.slice b.1 48 b.2) ∧ (Owns w' W.heap.size 1 (.slice b.1 48 b.2) 48 (gs.map (Value.int .i64)) ∧ Below W.heap.size W w')) := fun W h => (clonei_any A' 48 c' gs W.heap.size W ((ra'.out.below h).more h.size) (Nat.le_refl _) (by decide) (by decide)).mono fun e w' ⟨D, d, h1, h2⟩ => ⟨(D, d), h1, h2⟩
          obtain ⟨v0, v1, v2, v3, v4, v5⟩ := HC.out w6 HB6.out
          clear hk e1 e2 ex eg
          go_wp2_with fail
          go_region_law
            (first
              | (refine step_enterx rfl 20 #[.slice A' 48 c'] (fun b : Option Addr × Nat => Value.slice b.1 48 b.2) (by simp [go_sem]) (HCI.out w7 BW7.out) ?_; rintro ⟨D', d'⟩ w8 ⟨o8, hb8⟩; have hYr := row_below HYr7.out (row_lt HYr7.out) hb8; have y0 : w8.cell? ⟨w5.heap.size + 1, 0, none⟩ = some (.slice none 0 0) := row_cell hYr 0; have y1 : w8.cell? ⟨w5.heap.size + 1, 1, none⟩ = some (.slice none 0 0) := row_cell hYr 1; have y2 := row_cold hYr 0; have y3 := row_cold hYr 1; obtain ⟨x0, x1, x2, x3, x4, x5⟩ := HC.out w8 (BW7.out.trans (hb8.mono BW7.out.size)))
              | (refine step_enterx rfl 19 #[.slice A 48 c] (fun b : Option Addr × Nat => Value.slice b.1 48 b.2) (by simp [go_sem]) (HCL.out w6.drew HB6.out.drew) ?_; rintro ⟨D, d⟩ w7 ⟨o7, hb7⟩; have HYr7 := Lib.hid (row_below (w := w6.drew) HY6.out (row_lt HY6.out) hb7); have BW7 := Lib.hid (HB6.out.drew.trans (hb7.mono HB6.out.size)); obtain ⟨z0, z1, z2, z3, z4, z5⟩ := HC.out w7 BW7.out))
          all_goals
            have hz67 : w6.heap.size ≤ w7.heap.size := hb7.size
            have hYl := row_lt HY6.out
            have o7' : Owns w8 w6.heap.size 2 (.slice D 48 d) 48 (xs.flatMap PlaceD.cells) := Owns.fresh_below (h := o7) hb8
            have o8' : Owns w8 w7.heap.size 1 (.slice D' 48 d') 48 (gs.map (Value.int .i64)) := o8
            obtain ⟨g1, off1, hD, h11, h12⟩ := own_some (w := w7) (show Owns w7 w6.heap.size 2 (.slice D 48 d) 48 (xs.flatMap PlaceD.cells) from o7) (by decide)
            obtain ⟨g2, off2, hD', h21, h22⟩ := own_some o8' (by decide)
            subst hD
            subst hD'
            have hg12 : g1 ≠ g2 := by omega
            have hgY1 : w5.heap.size + 1 ≠ g1 := by omega
            have hgY2 : w5.heap.size + 1 ≠ g2 := by omega
            have X9 := Lib.hid (row_store (j := 1) (v := .slice (some ⟨g2, off2, none⟩) 48 d') (row_store (j := 0) (v := .slice (some ⟨g1, off1, none⟩) 48 d) hYr))
            have K9 : Keep1 (w5.heap.size + 1) w6 ((w8.setCell ⟨w5.heap.size + 1, 0, none⟩ (.slice (some ⟨g1, off1, none⟩) 48 d)).setCell ⟨w5.heap.size + 1, 1, none⟩ (.slice (some ⟨g2, off2, none⟩) 48 d')) := (((Keep1.of (w := w6) (w' := w7) (show Below w6.heap.size w6 w7 from (Below.refl _ _).drew.trans hb7) (Nat.le_refl _)).trans (Keep1.of hb8 (Nat.le_refl _))).set ⟨w5.heap.size + 1, 0, none⟩ (.slice (some ⟨g1, off1, none⟩) 48 d) (.inl rfl)).set ⟨w5.heap.size + 1, 1, none⟩ (.slice (some ⟨g2, off2, none⟩) 48 d') (.inl rfl)
            have B9 := Lib.hid (((B6.out.drew.trans ((hb7.trans (hb8.mono hb7.size)).mono B6.out.size)).setCell (p := ⟨w5.heap.size + 1, 0, none⟩) (Nat.le_succ _) (.slice (some ⟨g1, off1, none⟩) 48 d)).setCell (p := ⟨w5.heap.size + 1, 1, none⟩) (Nat.le_succ _) (.slice (some ⟨g2, off2, none⟩) 48 d'))
            have P9 := Lib.hid ((o7'.setOther (p := ⟨w5.heap.size + 1, 0, none⟩) (fun e => hgY1 (by simpa [Value.ownBlock] using e.symm)) (.slice (some ⟨g1, off1, none⟩) 48 d)).setOther (p := ⟨w5.heap.size + 1, 1, none⟩) (fun e => hgY1 (by simpa [Value.ownBlock] using e.symm)) (.slice (some ⟨g2, off2, none⟩) 48 d'))
            have Q9 := Lib.hid ((o8'.setOther (p := ⟨w5.heap.size + 1, 0, none⟩) (fun e => hgY2 (by simpa [Value.ownBlock] using e.symm)) (.slice (some ⟨g1, off1, none⟩) 48 d)).setOther (p := ⟨w5.heap.size + 1, 1, none⟩) (fun e => hgY2 (by simpa [Value.ownBlock] using e.symm)) (.slice (some ⟨g2, off2, none⟩) 48 d'))
            have hg1w6 := h11
            have hg2w6 : w6.heap.size ≤ g2 := by omega
            clear y0 y1 y2 y3 z0 z1 z2 z3 z4 z5 x0 x1 x2 x3 x4 x5 hb7 hb8 o7 o8 o7' o8' hYr v0 v1 v2 v3 v4 v5 HYr7
            generalize (w8.setCell ⟨w5.heap.size + 1, 0, none⟩ (.slice (some ⟨g1, off1, none⟩) 48 d)).setCell ⟨w5.heap.size + 1, 1, none⟩ (.slice (some ⟨g2, off2, none⟩) 48 d') = w9' at *
            have KK9 := Lib.hid K9
            clear K9
            have S2 := Lib.hid (set2 0 0 EX.out P9.out)
            obtain ⟨c1, f1, c2, f2, n2, _⟩ := S2.out
            have a0 : w9'.cell? ⟨w5.heap.size + 1, 0, none⟩ = some (.slice (some ⟨g1, off1, none⟩) 48 d) := row_cell X9.out 0
            have X10 := Lib.hid (row_other (a := ⟨g1, off1 + k * 2 + 1, none⟩) (v := .int .i64 0) (row_other (a := ⟨g1, off1 + k * 2, none⟩) (v := .int .i64 0) X9.out hgY1) hgY1)
            have Q10 := Lib.hid ((Q9.out.setOther (p := ⟨g1, off1 + k * 2, none⟩) (fun e => hg12 (by simpa [Value.ownBlock] using e.symm)) (.int .i64 0)).setOther (p := ⟨g1, off1 + k * 2 + 1, none⟩) (fun e => hg12 (by simpa [Value.ownBlock] using e.symm)) (.int .i64 0))
            have S1 := Lib.hid (set1 (g + 1) EG.out Q10.out)
            have S1b := Lib.hid (set1 (g + 1) EG.out Q9.out)
            obtain ⟨c3, _, _⟩ := S1.out
            obtain ⟨_, f3, _⟩ := S1b.out
            have a1 : ((w9'.setCell ⟨g1, off1 + k * 2, none⟩ (.int .i64 0)).setCell ⟨g1, off1 + k * 2 + 1, none⟩ (.int .i64 0)).cell? ⟨w5.heap.size + 1, 1, none⟩ = some (.slice (some ⟨g2, off2, none⟩) 48 d') := row_cell X10.out 1
            go_wp2_with fail
            go_meet
            case rel =>
              have X11 := row_other (a := ⟨g2, off2 + k, none⟩) (v := .int .i64 (g + 1)) X10.out hgY2
              have S3 := S2.out.2.2.2.2.2.setOther (p := ⟨g2, off2 + k, none⟩) (fun e => hg12 (by simpa [Value.ownBlock] using e)) (.int .i64 (g + 1))
              refine ⟨some ⟨g1, off1, none⟩, 48, d, some ⟨g2, off2, none⟩, 48, d', X11, ?_, ?_, ?_, ?_⟩
              · rw [E1.out]; exact S3.rows place_two2 (by omega)
              · rw [E2.out]; exact own_intsI S1.out.2.2
              · exact ((KK9.out.set ⟨g1, off1 + k * 2, none⟩ (.int .i64 0) (.inr hg1w6)).set ⟨g1, off1 + k * 2 + 1, none⟩ (.int .i64 0) (.inr hg1w6)).set ⟨g2, off2 + k, none⟩ (.int .i64 (g + 1)) (.inr hg2w6)
              · have := B6.out.size
                exact ((B9.out.setCell (by show w5.heap.size ≤ g1; omega) _).setCell (by show w5.heap.size ≤ g1; omega) _).setCell (by show w5.heap.size ≤ g2; omega) _
        · obtain ⟨e1, e2⟩ := cut_bad HCE.out hce
          have E : Hid (PY (w5.heap.size + 1) w5.heap.size 25 (cutX xs gs m) (cutG xs gs m) w5 w6 w6) := ⟨none, 0, 0, none, 0, 0, HY6.out, by rw [e1]; exact no_places _ _, by rw [e2]; exact no_intsI _ _, Keep1.of (Below.refl _ _) (Nat.le_refl _), B6.out⟩
          have g0 : (ce == 0) = false := beq_eq_false_iff_ne.2 hce
          clear e1 e2 hce
          go_wp2_with fail
          go_meet
          case rel => exact E.out
      case rest =>
        obtain ⟨G2, p2, k2, G2', p2', k2', hY, ry, ry', hkeep, hby⟩ := hcut
        obtain ⟨w7, rfl⟩ : ∃ z : World, z = wc := ⟨_, rfl⟩
        have hYl := row_lt HY6.out
        have hX7 : w7.heap[w5.heap.size]? = _ := (hkeep.1 w5.heap.size (by omega) (by omega)).trans HX6.out
        have hN1 := row_below HN1c.out HN1l hby
        have hN2 := row_below HN2c.out HN2l hby
        have a0 : w7.cell? ⟨w1.heap.size, 0, none⟩ = some (.slice D1 q1 d1) := row_cell hN1 0
        have a1 : w7.cell? ⟨w1.heap.size, 1, none⟩ = some (.slice D1' q1' d1') := row_cell hN1 1
        have b0 : w7.cell? ⟨w5.heap.size, 0, none⟩ = some (.slice G1 p1 k1) := row_cell hX7 0
        have b1 : w7.cell? ⟨w5.heap.size, 1, none⟩ = some (.slice G1' p1' k1') := row_cell hX7 1
        have rxx := hkeep.rows RX6.out (Nat.le_refl _) NX6.out
        have rxx' := hkeep.rows RX6'.out (Nat.le_refl _) NX6'.out
        have T1 := Lib.hid (same_any D1 q1 d1 _ D1' q1' d1' _ G1 p1 k1 _ G1' p1' k1' _ w7 ((R1d.out.below hby).more hby.size) ((R1d'.out.below hby).more hby.size) rxx rxx')
        have T2 : Hid (∀ W, Below w7.heap.size w7 W → Calls Try.prog 21 #[.agg #[.slice D2 q2 d2, .slice D2' q2' d2'], .agg #[.slice G2 p2 k2, .slice G2' p2' k2']] W fun e w' => e = .returned (.bool true) ∧ Below W.heap.size W w') := fun W h => by
          have hbW := hby.trans (h.mono hby.size)
          have := same_any D2 q2 d2 _ D2' q2' d2' _ G2 p2 k2 _ G2' p2' k2' _ W ((R2d.out.below hbW).more hbW.size) ((R2d'.out.below hbW).more hbW.size) ((ry.below h).more h.size) ((ry'.below h).more h.size)
          rw [eqB_yes rfl, eqB_yes rfl] at this; exact this
        rw [eqB_yes rfl, eqB_yes rfl] at T1
        have HYW : Hid (∀ W, Below w7.heap.size w7 W → W.cell? ⟨w2.heap.size, 0, none⟩ = some (.slice D2 q2 d2) ∧ W.cell? ⟨w2.heap.size, 1, none⟩ = some (.slice D2' q2' d2') ∧ W.cell? ⟨w5.heap.size + 1, 0, none⟩ = some (.slice G2 p2 k2) ∧ W.cell? ⟨w5.heap.size + 1, 1, none⟩ = some (.slice G2' p2' k2')) := fun W h => by
          have h1 := row_below hN2 (row_lt hN2) h
          have h2 := row_below hY (row_lt hY) h
          exact ⟨row_cell h1 0, row_cell h1 1, row_cell h2 0, row_cell h2 1⟩
        have HFIN := Lib.hid (HBA.out.trans ((HB5.out.trans (hby.mono HB5.out.size)).mono HBA.out.size))
        clear hkeep hby hY hX7 hN1 hN2 rxx rxx' ry ry' HN1l HN2l hYl
        go_wp2_with (first
          | (go_at_call 21; go_at_call_of 21 D1; refine T1.out.mono ?_; rintro e w8 ⟨rfl, hb8⟩; obtain ⟨e0, e1, e2, e3⟩ := HYW.out w8 hb8)
          | (go_at_call 21; refine (T2.out _ hb8).mono ?_; rintro e w9 ⟨rfl, hb9⟩))
        go_ret
        exact ⟨rfl, (HFIN.out.trans (hb8.mono HFIN.out.size)).trans (hb9.mono (HFIN.out.trans (hb8.mono HFIN.out.size)).size)⟩
end Go.Proofs.Ytjmgocfoimhmjaa.lImapSets
