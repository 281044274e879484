/- imap.Fresh and linenref.SameImap, walked. -/
import Derived.Test.YtgiblnfdadbapaaEqW
import Derived.Test.YtgiblnfdadbapaaImapW
import Derived.Deep.RegionWith
namespace Go.Proofs.Ytgiblnfdadbapaa
open Go.RowKit

/-- 48 places, 48 numbers, all nought, as make lays them. -/
def zeroPlaces : Array Value := Array.replicate 96 (.int .i64 0)
def zeroGens : Array Value := Array.replicate 48 (.int .i64 0)
theorem info_place : (Try.prog.info? 34).map (fun i => (i.zero, i.size, i.bytes)) = some (some (.agg #[.int .i64 0, .int .i64 0]), 2, 16) := by kernel_rfl
theorem info_imap : (Try.prog.info? 25).map (·.size) = some 2 := by kernel_rfl
theorem info_i64 : (Try.prog.info? 3).map (fun i => (i.zero, i.size, i.bytes)) = some (some (.int .i64 0), 1, 8) := by kernel_rfl
theorem run_mk {P : Program} {t e : TypeId} {z : Value} {size bytes : Nat} (ht : P.underlying t = some (.slice e)) (hinfo : (P.info? e).map (fun i => (i.zero, i.size, i.bytes)) = some (some z, size, bytes)) (hb : (bytes : Int) * 48 ≤ 281474976710656) {cs : Array Value} (hcs : madeCells z.cells (48 * size) = cs) :
    ∀ W : World, (Instr.makeSlice t (.int .i64 48) (.int .i64 48)).run P W = .ok (.slice (some ⟨W.heap.size, 0, none⟩) 48 48) (W.alloc (.cells cs e)) := fun W => by
  obtain ⟨i, hi, hzz⟩ := Option.map_eq_some_iff.1 hinfo
  simp only [Prod.mk.injEq] at hzz
  obtain ⟨hz, hs, hbb⟩ := hzz
  have := run_make (P := P) W t e i z ht hi hz .i64 .i64 48 48 (by omega) (by omega) (by rw [hbb]; exact hb) (by omega)
  rw [hs] at this
  rw [← hcs]
  exact this
theorem mk_places : ∀ W : World, (Instr.makeSlice 22 (.int .i64 48) (.int .i64 48)).run Try.prog W = .ok (.slice (some ⟨W.heap.size, 0, none⟩) 48 48) (W.alloc (.cells zeroPlaces 34)) :=
  run_mk (by kernel_rfl) info_place (by omega) (by kernel_rfl)
theorem mk_gens : ∀ W : World, (Instr.makeSlice 23 (.int .i64 48) (.int .i64 48)).run Try.prog W = .ok (.slice (some ⟨W.heap.size, 0, none⟩) 48 48) (W.alloc (.cells zeroGens 3)) :=
  run_mk (by kernel_rfl) info_i64 (by omega) (by kernel_rfl)
theorem rows_places {W : World} {b : Nat} {t : TypeId} (h : W.heap[b]? = some (.cells zeroPlaces t (0, 0))) : RowsIn W W.heap.size (some ⟨b, 0, none⟩) 48 48 PlaceD.cells 2 (List.replicate 48 ⟨0, 0⟩) :=
  ⟨by simp, Nat.le_refl _, by unfold maxLen; omega, fun i x hx => by
    have hi : i < 48 := by have := (List.getElem?_eq_some_iff.1 hx).1; simpa using this
    rw [List.getElem?_replicate, if_pos hi] at hx
    injection hx with hx
    subst hx
    refine ⟨b, 0, rfl, (Array.getElem?_eq_some_iff.1 h).1, fun j u hu => ?_⟩
    have hj : j < 2 := by have := (List.getElem?_eq_some_iff.1 hu).1; simpa [PlaceD.cells] using this
    have hu' : u = .int .i64 0 := by
      obtain rfl | rfl : j = 0 ∨ j = 1 := by omega
      · simpa [PlaceD.cells] using hu.symm
      · simpa [PlaceD.cells] using hu.symm
    rw [Nat.zero_add, cell_of_row _ b _ _ _ _ h, hu']
    unfold zeroPlaces; rw [Array.getElem?_replicate, if_pos (by omega)]⟩
theorem rows_gens {W : World} {b : Nat} {t : TypeId} (h : W.heap[b]? = some (.cells zeroGens t (0, 0))) : RowsIn W W.heap.size (some ⟨b, 0, none⟩) 48 48 (fun z => [.int .i64 z]) 1 (List.replicate 48 0) :=
  ⟨by simp, Nat.le_refl _, by unfold maxLen; omega, fun i x hx => by
    have hi : i < 48 := by have := (List.getElem?_eq_some_iff.1 hx).1; simpa using this
    rw [List.getElem?_replicate, if_pos hi] at hx
    injection hx with hx
    subst hx
    refine ⟨b, 0, rfl, (Array.getElem?_eq_some_iff.1 h).1, fun j u hu => ?_⟩
    have hj : j < 1 := by have := (List.getElem?_eq_some_iff.1 hu).1; simpa using this
    obtain rfl : j = 0 := by omega
    have hu' : u = .int .i64 0 := by simpa using hu.symm
    rw [Nat.zero_add, cell_of_row _ b _ _ _ _ h, hu']
    unfold zeroGens; rw [Array.getElem?_replicate, if_pos (by omega)]⟩

set_option maxRecDepth 20000 in
set_option maxHeartbeats 1000000 in
theorem fresh_row (w : World) :
    Calls Try.prog 9 #[] w fun e w' => ∃ b b', e = .returned (.agg #[.slice (some ⟨b, 0, none⟩) 48 48, .slice (some ⟨b', 0, none⟩) 48 48]) ∧ w'.heap[b]? = some (.cells zeroPlaces 34) ∧ w'.heap[b']? = some (.cells zeroGens 3) ∧ Below w.heap.size w w' := by
  have h1 := mk_places
  have h2 := mk_gens
  go_enter Try.func9, Try.ntmps9
  go_wp2
  go_region_with (fail)
  · clear h1 h2
    go_wp2
    have e0 : ∀ (a b c : Obj), (((w.alloc a).alloc b).alloc c).drew.heap[w.heap.size]? = some a := fun a b c => by
      show (((w.alloc a).alloc b).alloc c).heap[w.heap.size]? = some a
      rw [heap_alloc_old _ _ (by simp; omega), heap_alloc_old _ _ (by simp)]
      exact heap_alloc_new w a
    refine bodyPost_ret (results_cell_row rfl _ _ w.heap.size _ _ (0, 0) _ rfl (e0 _ _ _) Try.underlying25 rfl info_imap) rfl ?_
    have e1 : ∀ (a b c : Obj), (((w.alloc a).alloc b).alloc c).drew.heap[w.heap.size + 1]? = some b := fun a b c => by
      show (((w.alloc a).alloc b).alloc c).heap[w.heap.size + 1]? = some b
      rw [heap_alloc_old _ _ (by simp)]
      have := heap_alloc_new (w.alloc a) b
      simpa using this
    have e2 : ∀ (a b c : Obj), (((w.alloc a).alloc b).alloc c).drew.heap[w.heap.size + 1 + 1]? = some c := fun a b c => by
      show (((w.alloc a).alloc b).alloc c).heap[w.heap.size + 1 + 1]? = some c
      have := heap_alloc_new ((w.alloc a).alloc b) c
      simpa using this
    exact ⟨_, _, rfl, e1 _ _ _, e2 _ _ _, ((((Below.refl _ _).alloc (Nat.le_refl _) _).alloc (by simp) _).alloc (by simp; omega) _).drew⟩
  · clear h1 h2
    go_wp2
    have e0 : ∀ (a b c : Obj), (((w.alloc a).alloc b).alloc c).drew.heap[w.heap.size]? = some a := fun a b c => by
      show (((w.alloc a).alloc b).alloc c).heap[w.heap.size]? = some a
      rw [heap_alloc_old _ _ (by simp; omega), heap_alloc_old _ _ (by simp)]
      exact heap_alloc_new w a
    refine bodyPost_ret (results_cell_row rfl _ _ w.heap.size _ _ (0, 0) _ rfl (e0 _ _ _) Try.underlying25 rfl info_imap) rfl ?_
    have e1 : ∀ (a b c : Obj), (((w.alloc a).alloc b).alloc c).drew.heap[w.heap.size + 1]? = some b := fun a b c => by
      show (((w.alloc a).alloc b).alloc c).heap[w.heap.size + 1]? = some b
      rw [heap_alloc_old _ _ (by simp)]
      have := heap_alloc_new (w.alloc a) b
      simpa using this
    have e2 : ∀ (a b c : Obj), (((w.alloc a).alloc b).alloc c).drew.heap[w.heap.size + 1 + 1]? = some c := fun a b c => by
      show (((w.alloc a).alloc b).alloc c).heap[w.heap.size + 1 + 1]? = some c
      have := heap_alloc_new ((w.alloc a).alloc b) c
      simpa using this
    exact ⟨_, _, rfl, e2 _ _ _, e1 _ _ _, ((((Below.refl _ _).alloc (Nat.le_refl _) _).alloc (by simp) _).alloc (by simp; omega) _).drew⟩

set_option maxRecDepth 20000 in
set_option maxHeartbeats 1000000 in
theorem same_any (A : Option Addr) (n c : Nat) (xs : List PlaceD) (A' : Option Addr) (n' c' : Nat) (gs : List Int) (D : Option Addr) (m d : Nat) (ys : List PlaceD) (D' : Option Addr) (m' d' : Nat) (hs : List Int) (w : World) (r : RowsIn w w.heap.size A n c PlaceD.cells 2 xs) (r' : RowsIn w w.heap.size A' n' c' (fun z => [.int .i64 z]) 1 gs) (q : RowsIn w w.heap.size D m d PlaceD.cells 2 ys) (q' : RowsIn w w.heap.size D' m' d' (fun z => [.int .i64 z]) 1 hs) :
    Calls Try.prog 8 #[.agg #[.slice A n c, .slice A' n' c'], .agg #[.slice D m d, .slice D' m' d']] w fun e w' => e = .returned (.bool (eqB xs ys && eqB gs hs)) ∧ Below w.heap.size w w' := by
  have H1 : Hid (∀ W, Below w.heap.size w W → Calls Try.prog 16 #[.slice A n c, .slice D m d] W fun e w' => e = .returned (.bool (eqB xs ys)) ∧ Below W.heap.size W w') := fun W h => eqp_any A n c xs D m d ys _ _ W (r.below h) (q.below h)
  have H2 : Hid (∀ W, Below w.heap.size w W → Calls Try.prog 17 #[.slice A' n' c', .slice D' m' d'] W fun e w' => e = .returned (.bool (eqB gs hs)) ∧ Below W.heap.size W w') := fun W h => eqi_any A' n' c' gs D' m' d' hs _ _ W (r'.below h) (q'.below h)
  clear r r' q q'
  have hb1 : Below w.heap.size w ((w.alloc (.cells #[.slice A n c, .slice A' n' c'] 25)).alloc (.cells #[.slice D m d, .slice D' m' d'] 25)) := ((Below.refl _ _).alloc (Nat.le_refl _) _).alloc (by simp) _
  obtain ⟨p0, p1⟩ := box2 w (.slice A n c) (.slice A' n' c') 25
  obtain ⟨wa, hwa⟩ : ∃ wa, wa = w.alloc (.cells #[.slice A n c, .slice A' n' c'] 25) := ⟨_, rfl⟩
  have hwz : wa.heap.size = w.heap.size + 1 := by rw [hwa]; simp
  rw [← hwa] at p0 p1 hb1
  obtain ⟨q0, q1⟩ := box2 wa (.slice D m d) (.slice D' m' d') 25
  obtain ⟨wb, hwb⟩ : ∃ wb, wb = wa.alloc (.cells #[.slice D m d, .slice D' m' d'] 25) := ⟨_, rfl⟩
  have hab : Below wa.heap.size wa wb := by rw [hwb]; exact (Below.refl _ _).alloc (Nat.le_refl _) _
  have hbz : wb.heap.size = w.heap.size + 2 := by rw [hwb]; simp; omega
  rw [← hwb] at q0 q1 hb1
  rw [hwz] at q0 q1
  have s0 := (hab.cell (p := ⟨w.heap.size, 0, none⟩) (show w.heap.size < wa.heap.size by omega)).trans p0
  have s1 := (hab.cell (p := ⟨w.heap.size, 1, none⟩) (show w.heap.size < wa.heap.size by omega)).trans p1
  clear p0 p1 hab
  have z0 : w.heap.size < wb.heap.size := by omega
  have z1 : w.heap.size + 1 < wb.heap.size := by omega
  clear hwz hbz
  generalize hx : eqB xs ys = ex at *
  generalize eqB gs hs = eg at *
  cases ex
  · go_enter Try.func8, Try.ntmps8
    go_wp2_with (go_at_call 16; rw [← hwa, ← hwb]; refine (H1.out _ hb1).mono ?_; rintro e w1 ⟨rfl, hc1⟩)
    go_ret
    exact ⟨rfl, hb1.trans (hc1.mono (by omega))⟩
  · go_enter Try.func8, Try.ntmps8
    go_wp2_with (first
      | (go_at_call 16; rw [← hwa, ← hwb]; refine (H1.out _ hb1).mono ?_; rintro e w1 ⟨rfl, hc1⟩; have t1 := (hc1.cell (p := ⟨w.heap.size, 1, none⟩) z0).trans s1; have t2 := (hc1.cell (p := ⟨w.heap.size + 1, 1, none⟩) z1).trans q1; have hb2 := hb1.trans (hc1.mono (Nat.le_of_lt z0)))
      | (go_at_call 17; refine (H2.out _ hb2).mono ?_; rintro e w2 ⟨rfl, hc2⟩))
    go_ret
    exact ⟨rfl, hb2.trans (hc2.mono hb2.size)⟩
end Go.Proofs.Ytgiblnfdadbapaa
