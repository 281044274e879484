/- imap.like, walked: a copy with room of its own. -/
import Derived.Test.YtjmgocfoimhmjaaImrV
import Derived.Test.YtjmgocfoimhmjaaTwo
import Derived.Deep.RegionHeldLaw
namespace Go.Proofs.Ytjmgocfoimhmjaa
open Go.RowKit

theorem info_placeL : (Try.prog.info? 27).map (fun i => (i.zero, i.size, i.bytes)) = some (some (.agg #[.int .i64 0, .int .i64 0]), 2, 16) := by kernel_rfl
theorem info_i64l : (Try.prog.info? 3).map (fun i => (i.zero, i.size, i.bytes)) = some (some (.int .i64 0), 1, 8) := by kernel_rfl
theorem keepQ {W : World} {M : Nat} {u v : Value} (h : W.cell? ⟨M, 0, none⟩ = some u ∧ W.cell? ⟨M, 1, none⟩ = some v) : W.drew.cell? ⟨M, 0, none⟩ = some u ∧ W.drew.cell? ⟨M, 1, none⟩ = some v := h
theorem keepQs {W : World} {M b : Nat} {u v x y : Value} (hb : M ≠ b) (h : W.cell? ⟨M, 0, none⟩ = some u ∧ W.cell? ⟨M, 1, none⟩ = some v) : ((W.setCell ⟨b, 0, none⟩ x).setCell ⟨b, 1, none⟩ y).cell? ⟨M, 0, none⟩ = some u ∧ ((W.setCell ⟨b, 0, none⟩ x).setCell ⟨b, 1, none⟩ y).cell? ⟨M, 1, none⟩ = some v :=
  ⟨(World.cell?_setCell_other _ _ _ _ (fun e => hb (by injection e with e; exact e.symm))).trans ((World.cell?_setCell_other _ _ _ _ (fun e => hb (by injection e with e; exact e.symm))).trans h.1), (World.cell?_setCell_other _ _ _ _ (fun e => hb (by injection e with e; exact e.symm))).trans ((World.cell?_setCell_other _ _ _ _ (fun e => hb (by injection e with e; exact e.symm))).trans h.2)⟩
theorem keepQl {W W' : World} {base M : Nat} {row : Option Nat} {u v : Value} (n0 : row ≠ some M) (h : W.cell? ⟨M, 0, none⟩ = some u ∧ W.cell? ⟨M, 1, none⟩ = some v) (hl : Left W W' base row) : W'.cell? ⟨M, 0, none⟩ = some u ∧ W'.cell? ⟨M, 1, none⟩ = some v :=
  ⟨hl.cell h.1 n0, hl.cell h.2 n0⟩
theorem flat_cells {B n c b o : Nat} {xs : List PlaceD} {w : World} (h : RowsIn w B (some ⟨b, o, none⟩) n c PlaceD.cells 2 xs) : ∀ j u, (xs.flatMap PlaceD.cells)[j]? = some u → w.cell? (Addr.add ⟨b, o, none⟩ j) = some u := fun j u hu => by
  have hj : j < 2 * xs.length := by rw [← flat_pl_len]; exact (List.getElem?_eq_some_iff.1 hu).1
  have hi : j / 2 < xs.length := by omega
  obtain ⟨b', o', e, _, hc⟩ := h.at_ (j / 2) _ (List.getElem?_eq_getElem hi)
  injection e with e; injection e with e1 e2 _
  subst e1; subst e2
  have h2 := flat_at (enc := PlaceD.cells) (k := 2) (fun _ => rfl) xs (j / 2) xs[j / 2] (List.getElem?_eq_getElem hi) (j % 2) ((xs[j / 2].cells)[j % 2]'(by show j % 2 < 2; omega)) (List.getElem?_eq_getElem _)
  rw [show j / 2 * 2 + j % 2 = j by omega] at h2
  rw [h2] at hu
  injection hu with hu
  rw [add_form, ← hu]
  have := hc (j % 2) _ (List.getElem?_eq_getElem (show j % 2 < (xs[j / 2].cells).length by show j % 2 < 2; omega))
  rw [show o + j / 2 * 2 + j % 2 = o + j by omega] at this
  exact this
def LkPost (xs : List PlaceD) (gs : List Int) (w : World) (e : Ending) (w' : World) : Prop := ∃ D d D' d', e = .returned (.agg #[.slice D 48 d, .slice D' 48 d']) ∧ Owns w' w.heap.size 2 (.slice D 48 d) 48 (xs.flatMap PlaceD.cells) ∧ Owns w' w.heap.size 1 (.slice D' 48 d') 48 (gs.map (Value.int .i64)) ∧ Apart (.slice D 48 d) (.slice D' 48 d') ∧ Below w.heap.size w w'

set_option maxRecDepth 20000 in
set_option maxHeartbeats 2000000 in
theorem like_any (A : Option Addr) (c : Nat) (xs : List PlaceD) (A' : Option Addr) (c' : Nat) (gs : List Int) (w : World) (r : RowsIn w w.heap.size A 48 c PlaceD.cells 2 xs) (r' : RowsIn w w.heap.size A' 48 c' (fun z => [.int .i64 z]) 1 gs) :
    Calls Try.prog 58 #[.agg #[.slice A 48 c, .slice A' 48 c']] w (LkPost xs gs w) := by
  obtain ⟨b, o, rfl, hb⟩ := rows_some r (by omega)
  obtain ⟨b', o', rfl, hb'⟩ := rows_some r' (by omega)
  obtain ⟨wa, hwa⟩ : ∃ wa, wa = (w.alloc (.cells #[.slice (some ⟨b, o, none⟩) 48 c, .slice (some ⟨b', o', none⟩) 48 c'] 25)).alloc (.cells zeroImap 25) := ⟨_, rfl⟩
  have hza : wa.heap.size = w.heap.size + 2 := by rw [hwa]; simp
  have hba : Below w.heap.size w wa := by rw [hwa]; exact ((Below.refl _ _).alloc (Nat.le_refl _) _).alloc (by simp) _
  have hra : wa.heap[w.heap.size + 1]? = some (.cells zeroImap 25 (0, 0)) := by
    rw [hwa]
    have := heap_alloc_new (w.alloc (.cells #[.slice (some ⟨b, o, none⟩) 48 c, .slice (some ⟨b', o', none⟩) 48 c'] 25)) (.cells zeroImap 25)
    rw [show (w.alloc (.cells #[.slice (some ⟨b, o, none⟩) 48 c, .slice (some ⟨b', o', none⟩) 48 c'] 25)).heap.size = w.heap.size + 1 by simp] at this
    exact this
  have hrb : wa.heap[w.heap.size]? = some (.cells #[.slice (some ⟨b, o, none⟩) 48 c, .slice (some ⟨b', o', none⟩) 48 c'] 25 (0, 0)) := by
    rw [hwa]; exact (heap_alloc_old _ _ (by simp)).trans (heap_alloc_new w _)
  have N1 : Hid (∀ W, Below w.heap.size w W → ∀ j u, (xs.flatMap PlaceD.cells)[j]? = some u → W.cell? (Addr.add ⟨b, o, none⟩ j) = some u) := fun W h => flat_cells (r.below h)
  have N2 : Hid (∀ W, Below w.heap.size w W → ∀ j u, (gs.map (Value.int .i64))[j]? = some u → W.cell? (Addr.add ⟨b', o', none⟩ j) = some u) := fun W h => rows_cells (r'.below h)
  have L1 : Hid ((xs.flatMap PlaceD.cells).length = 48 * 2) := by simp only [Hid]; rw [flat_pl_len, r.len]
  have L2 : Hid ((gs.map (Value.int .i64)).length = 48 * 1) := by simp only [Hid]; rw [List.length_map, r'.len]
  have M1 : Hid (∀ u ∈ xs.flatMap PlaceD.cells, u.oneCell' = true) := fun u hu => by
    obtain ⟨y, _, hy⟩ := List.mem_flatMap.1 hu
    simp [PlaceD.cells] at hy
    rcases hy with rfl | rfl <;> rfl
  have M2 : Hid (∀ u ∈ gs.map (Value.int .i64), u.oneCell' = true) := fun u hu => by obtain ⟨y, _, rfl⟩ := List.mem_map.1 hu; rfl
  have O1 : Hid (∀ W, Owns W (w.heap.size + 2) 2 (.slice none 0 0) 0 []) := fun W => Owns.nil _ _ _
  have O2 : Hid (∀ W, Owns W (w.heap.size + 2) 1 (.slice none 0 0) 0 []) := fun W => Owns.nil _ _ _
  have HS : Hid (wa.cell? ⟨w.heap.size, 0, none⟩ = some (.slice (some ⟨b, o, none⟩) 48 c) ∧ wa.cell? ⟨w.heap.size, 1, none⟩ = some (.slice (some ⟨b', o', none⟩) 48 c')) := ⟨row_cell hrb 0, row_cell hrb 1⟩
  have HRA := Lib.hid hra
  have HWA := Lib.hid hwa
  have HBA := Lib.hid hba
  have HZA := Lib.hid hza
  have G4 : Hid (0 < 2 ∧ 0 < 1) := by simp [Hid]
  have G3 : Hid (0 + 48 ≤ maxLen ∧ (0 + 48) * 16 ≤ 140737488355328 ∧ (0 + 48) * 8 ≤ 140737488355328) := by unfold maxLen Hid; omega
  generalize hUU : xs.flatMap PlaceD.cells = U at *
  generalize hUU' : gs.map (Value.int .i64) = U' at *
  have HUU := Lib.hid hUU
  have HUU' := Lib.hid hUU'
  clear hUU hUU'
  clear r r' hwa hza hba hra hrb
  go_enter Try.func58, Try.ntmps58
  go_wp2
  rw [← HWA.out]
  have hs := HS.out
  go_region_held_law (fun W => W.cell? ⟨w.heap.size, 0, none⟩ = some (.slice (some ⟨b, o, none⟩) 48 c) ∧ W.cell? ⟨w.heap.size, 1, none⟩ = some (.slice (some ⟨b', o', none⟩) 48 c'))
    (first | assumption | exact keepQ (by assumption) | exact keepQl (W := wa.drew) (fun e => by cases e) HS.out hl1 | exact keepQl (W := w1) (fun e => by cases e) (keepQl (W := wa.drew) (fun e => by cases e) HS.out hl1) hl2 | exact keepQs (by omega) (keepQl (W := w1) (fun e => by cases e) (keepQl (W := wa.drew) (fun e => by cases e) HS.out hl1) hl2))
    (first
      | (refine step_appN (P := Try.prog) (e := 27) (z := .agg #[.int .i64 0, .int .i64 0]) (size := 2) (bytes := 16) (base := w.heap.size + 2) rfl (.const (.slice none 0 0)) (.tmp 4) 22 rfl Try.underlying22 info_placeL rfl G4.out.1 none 0 0 [] rfl (O1.out _) BB.out.size ⟨b, o, none⟩ 48 c U rfl L1.out (N1.out _ BB.out) M1.out G3.out.1 G3.out.2.1 ?_; intro A1 c1 w1 hown1 hl1 hn1)
      | (refine step_appN (P := Try.prog) (e := 27) (z := .agg #[.int .i64 0, .int .i64 0]) (size := 2) (bytes := 16) (base := w.heap.size + 2) rfl (.const (.slice none 0 0)) (.tmp 4) 22 rfl Try.underlying22 info_placeL rfl G4.out.1 none 0 0 [] rfl (O1.out _) (show w.heap.size + 2 ≤ wa.drew.heap.size from Nat.le_of_eq HZA.out.symm) ⟨b, o, none⟩ 48 c U rfl L1.out (N1.out _ HBA.out.drew) M1.out G3.out.1 G3.out.2.1 ?_; intro A1 c1 w1 hown1 hl1 hn1)
      | (refine step_appN (P := Try.prog) (e := 3) (z := .int .i64 0) (size := 1) (bytes := 8) (base := w.heap.size + 2) rfl (.const (.slice none 0 0)) (.tmp 7) 23 rfl Try.underlying23 info_i64l rfl G4.out.2 none 0 0 [] rfl (O2.out _) (show w.heap.size + 2 ≤ w1.heap.size from Nat.le_trans (Nat.le_of_eq HZA.out.symm) hl1.size) ⟨b', o', none⟩ 48 c' U' rfl L2.out (N2.out _ (hl1.below (by omega) HBA.out.drew)) M2.out G3.out.1 G3.out.2.2 ?_; intro A2 c2 w2 hown2 hl2 hn2; have hrr := row_left (row_left (w := wa.drew) HRA.out hl1 (fun e => by cases e)) hl2 (fun e => by cases e); have v0 : w2.cell? ⟨w.heap.size + 1, 0, none⟩ = some (.slice none 0 0) := row_cell hrr 0; have v1 : w2.cell? ⟨w.heap.size + 1, 1, none⟩ = some (.slice none 0 0) := row_cell hrr 1; have v2 := row_cold hrr 0; have v3 := row_cold hrr 1))
  all_goals
    rename_i hHeld
    clear hHeld hs
    simp only [Nat.zero_add, List.nil_append] at hown1 hown2 hn2
    have hm := row_store (j := 1) (v := .slice A2 48 c2) (row_store (j := 0) (v := .slice A1 48 c1) hrr)
    have HM : Hid (((w2.setCell ⟨w.heap.size + 1, 0, none⟩ (.slice A1 48 c1)).setCell ⟨w.heap.size + 1, 1, none⟩ (.slice A2 48 c2)).heap[w.heap.size + 1]? = some (.cells #[.slice A1 48 c1, .slice A2 48 c2] 25 (0, 0))) := hm
    have q1 := hown1.apart hl2 (Apart.nil _ _ _)
    have q2 : Owns ((w2.setCell ⟨w.heap.size + 1, 0, none⟩ (.slice A1 48 c1)).setCell ⟨w.heap.size + 1, 1, none⟩ (.slice A2 48 c2)) (w.heap.size + 2) 2 (.slice A1 48 c1) 48 U := (q1.setOther (fun e => by have e2 : w.heap.size + 2 ≤ w.heap.size + 1 := (q1.lt _ e).1; omega) _).setOther (fun e => by have e2 : w.heap.size + 2 ≤ w.heap.size + 1 := (q1.lt _ e).1; omega) _
    have q3 : Owns ((w2.setCell ⟨w.heap.size + 1, 0, none⟩ (.slice A1 48 c1)).setCell ⟨w.heap.size + 1, 1, none⟩ (.slice A2 48 c2)) (w.heap.size + 2) 1 (.slice A2 48 c2) 48 U' := (hown2.setOther (fun e => by have e2 : w.heap.size + 2 ≤ w.heap.size + 1 := (hown2.lt _ e).1; omega) _).setOther (fun e => by have e2 : w.heap.size + 2 ≤ w.heap.size + 1 := (hown2.lt _ e).1; omega) _
    have q4 : Apart (.slice A1 48 c1) (.slice A2 48 c2) := fun g e e' => by
      have h1 := (hown1.lt g e).2
      rcases hn2 with h | h
      · rw [h] at e'; cases e'
      · have := h g e'; omega
    have q5 : Below w.heap.size w ((w2.setCell ⟨w.heap.size + 1, 0, none⟩ (.slice A1 48 c1)).setCell ⟨w.heap.size + 1, 1, none⟩ (.slice A2 48 c2)) := ((hl2.below (by omega) (hl1.below (by omega) HBA.out.drew)).setCell (show w.heap.size ≤ w.heap.size + 1 by omega) _).setCell (show w.heap.size ≤ w.heap.size + 1 by omega) _
    have Q2 := Lib.hid q2
    have Q3 := Lib.hid q3
    have Q4 := Lib.hid q4
    have Q5 := Lib.hid q5
    clear hm q1 q2 q3 q4 q5 hown1 hown2 hl1 hl2 hn1 hn2 hrr v0 v1 v2 v3
    generalize (w2.setCell ⟨w.heap.size + 1, 0, none⟩ (.slice A1 48 c1)).setCell ⟨w.heap.size + 1, 1, none⟩ (.slice A2 48 c2) = w9 at *
    go_wp2
    refine bodyPost_ret (results_cell_row rfl _ _ (w.heap.size + 1) _ #[.slice A1 48 c1, .slice A2 48 c2] (0, 0) _ rfl HM.out Try.underlying25 rfl info_imap) rfl ?_
    exact ⟨A1, c1, A2, c2, rfl, by rw [HUU.out]; exact Q2.out.more (by omega), by rw [HUU'.out]; exact Q3.out.more (by omega), Q4.out, Q5.out⟩
end Go.Proofs.Ytjmgocfoimhmjaa
