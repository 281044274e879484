/- The law ImapSays, walked: it returns true for every map. -/
import Derived.Test.YtgiblnfdadbapaaImapT
import Derived.Test.YtgiblnfdadbapaaFreshW
namespace Go.Proofs.Ytgiblnfdadbapaa.lImapSays
open Go.RowKit

theorem row_lt {W : World} {b : Nat} {x : Obj} (h : W.heap[b]? = some x) : b < W.heap.size := (Array.getElem?_eq_some_iff.1 h).1
theorem row_alloc {W : World} {b : Nat} {x : Obj} (h : W.heap[b]? = some x) (o : Obj) : (W.alloc o).heap[b]? = some x := (heap_alloc_old _ _ (row_lt h)).trans h
theorem row_below {W W' : World} {b : Nat} {x : Obj} (h : W.heap[b]? = some x) (hb : Below W.heap.size W W') : W'.heap[b]? = some x := (hb.block _ (row_lt h)).trans h
theorem row_drew {W : World} {b : Nat} {x : Obj} (h : W.heap[b]? = some x) : W.drew.heap[b]? = some x := h

theorem row_new1 (W : World) (a x : Obj) : ((W.alloc a).alloc x).heap[W.heap.size + 1]? = some x := by
  have := heap_alloc_new (W.alloc a) x
  simpa using this
theorem same_zero (b b' d d' : Nat) (w : World) (h1 : w.heap[b]? = some (.cells zeroPlaces 34)) (h2 : w.heap[b']? = some (.cells zeroGens 3)) (h3 : w.heap[d]? = some (.cells zeroPlaces 34)) (h4 : w.heap[d']? = some (.cells zeroGens 3)) :
    Calls Try.prog 8 #[.agg #[.slice (some ⟨b, 0, none⟩) 48 48, .slice (some ⟨b', 0, none⟩) 48 48], .agg #[.slice (some ⟨d, 0, none⟩) 48 48, .slice (some ⟨d', 0, none⟩) 48 48]] w fun e w' => e = .returned (.bool true) ∧ Below w.heap.size w w' := by
  have := same_any _ _ _ _ _ _ _ _ _ _ _ _ _ _ _ _ w (rows_places h1) (rows_gens h2) (rows_places h3) (rows_gens h4)
  rw [eqB_yes rfl, eqB_yes rfl] at this
  exact this


set_option maxRecDepth 20000 in
set_option maxHeartbeats 1000000 in
theorem walk (A : Option Addr) (n c : Nat) (xs : List PlaceD) (A' : Option Addr) (n' c' : Nat) (gs : List Int) (w : World) (r : RowsIn w w.heap.size A n c PlaceD.cells 2 xs) (_o0_0 : ∀ z ∈ xs, PlaceD.ok z) (_s0_0 : c * 16 ≤ 140737488351232) (r' : RowsIn w w.heap.size A' n' c' (fun z => [.int .i64 z]) 1 gs) (_o0_1 : ∀ z ∈ gs, (fun z => (Lit.int .i64 z).wf = true) z) (_s0_1 : c' * 8 ≤ 140737488351232) :
    Calls Try.prog 3 #[.agg #[.slice A n c, .slice A' n' c']] w fun e w' => e = .returned (.bool true) ∧ Below w.heap.size w w' := by
  clear _o0_0 _s0_0 _o0_1 _s0_1
  have H1 : Hid (∀ W, Below w.heap.size w W → Calls Try.prog 4 #[.agg #[.slice A n c, .slice A' n' c']] W fun e w' => e = .returned (.tuple #[.string (strOfNums (impS xs gs)), .int .i64 (impE xs gs)]) ∧ Below W.heap.size W w') := fun W h => imapw_any A n c xs A' n' c' gs W ((r.below h).more h.size) ((r'.below h).more h.size)
  have H2 : Hid (∀ W, Below w.heap.size w W → Calls Try.prog 5 #[.agg #[.slice A n c, .slice A' n' c']] W fun e w' => e = .returned (.tuple #[.string (strOfNums (impS xs gs)), .int .i64 (impE xs gs)]) ∧ Below W.heap.size W w') := fun W h => imapt_any A n c xs A' n' c' gs W ((r.below h).more h.size) ((r'.below h).more h.size)
  have H3 : Hid (∀ W, Below w.heap.size w W → Calls Try.prog 6 #[.agg #[.slice A n c, .slice A' n' c']] W fun e w' => e = .returned (.int .i64 (impE xs gs)) ∧ Below W.heap.size W w') := fun W h => imapc_any A n c xs A' n' c' gs W ((r.below h).more h.size) ((r'.below h).more h.size)
  have H4 : Hid (∀ W, Below w.heap.size w W → Calls Try.prog 7 #[.agg #[.slice A n c, .slice A' n' c']] W fun e w' => e = .returned (.int .i64 (impE xs gs)) ∧ Below W.heap.size W w') := fun W h => imapr_any A n c xs A' n' c' gs W ((r.below h).more h.size) ((r'.below h).more h.size)
  generalize impE xs gs = ee at *
  generalize strOfNums (impS xs gs) = tt at *
  clear r r'
  obtain ⟨p0, p1⟩ := box2 w (.slice A n c) (.slice A' n' c') 25
  have hwb : Below w.heap.size w (w.alloc (.cells #[.slice A n c, .slice A' n' c'] 25)) := (Below.refl _ _).alloc (Nat.le_refl _) _
  have hwz : w.heap.size + 1 ≤ (w.alloc (.cells #[.slice A n c, .slice A' n' c'] 25)).heap.size := by simp
  obtain ⟨wa, hwa⟩ : ∃ wa, wa = w.alloc (.cells #[.slice A n c, .slice A' n' c'] 25) := ⟨_, rfl⟩
  rw [← hwa] at p0 p1 hwb hwz
  have b0 : w.heap.size < w.heap.size + 1 := by omega
  have HS : wa.cell? ⟨w.heap.size, 0, none⟩ = some (.slice A n c) ∧ wa.cell? ⟨w.heap.size, 1, none⟩ = some (.slice A' n' c') ∧ w.heap.size + 1 ≤ wa.heap.size ∧ Below w.heap.size w wa := ⟨p0, p1, hwz, hwb⟩
  clear p0 p1
  have m1 := mk_places
  have m2 := mk_gens
  go_enter Try.func3, Try.ntmps3
  go_wp2_with (first
    | (go_at_call 4; rw [← hwa]; refine (H1.out _ hwb).mono ?_; rintro e w1 ⟨rfl, hc1⟩; have HS1 := keepc2b b0 b0 HS hc1; obtain ⟨y0, y1, y2, y3⟩ := HS1)
    | (go_at_call 5; refine (H2.out _ y3).mono ?_; rintro e w2 ⟨rfl, hc2⟩))
  have HS2 := keepc2b b0 b0 (keepc2b b0 b0 HS hc1) hc2
  clear HS hwa hwb hwz hc1 hc2 y0 y1 y2 y3 H1 H2
  go_region_held3 (fun W => W.cell? ⟨w.heap.size, 0, none⟩ = some (.slice A n c) ∧ W.cell? ⟨w.heap.size, 1, none⟩ = some (.slice A' n' c') ∧ w.heap.size + 1 ≤ W.heap.size ∧ Below w.heap.size w W)
    (first | assumption | exact keepc2d (by assumption) | exact keepc2b b0 b0 (by assumption) (by assumption) | exact keepc2b b0 b0 (by assumption) ((Below.refl _ _).alloc (Nat.le_refl _) _))
    (first
    | (go_at_call 6; refine (H3.out _ ?_).mono ?_; (exact keepc2w (by assumption)); rintro e w' ⟨rfl, hb⟩)
    | (go_at_call 7; refine (H4.out _ ?_).mono ?_; (exact keepc2w (by assumption)); rintro e w' ⟨rfl, hb⟩)
    | (go_at_call 9; refine (fresh_row _).mono ?_; rintro e w' ⟨b, b', rfl, hr1, hr2, hb⟩)
    | (go_at_call 8; refine (same_zero _ _ _ _ _ ?_ ?_ ?_ ?_).mono ?_; (repeat (first | assumption | exact heap_alloc_new _ _ | exact row_new1 _ _ _ | refine row_alloc ?_ _ | refine row_below ?_ (by assumption))); (repeat (first | assumption | exact heap_alloc_new _ _ | exact row_new1 _ _ _ | refine row_alloc ?_ _ | refine row_below ?_ (by assumption))); (repeat (first | assumption | exact heap_alloc_new _ _ | exact row_new1 _ _ _ | refine row_alloc ?_ _ | refine row_below ?_ (by assumption))); (repeat (first | assumption | exact heap_alloc_new _ _ | exact row_new1 _ _ _ | refine row_alloc ?_ _ | refine row_below ?_ (by assumption))); rintro e w' ⟨rfl, hb⟩))
  all_goals
    rename_i hHeld
    have hfin := keepc2w hHeld
    clear hHeld HS2 m1 m2
    go_wp2
    go_ret
    exact ⟨rfl, hfin⟩
end Go.Proofs.Ytgiblnfdadbapaa.lImapSays
