/- disk.like, walked: a copy of a disk, with room of its own. -/
import Derived.Test.YtjmgocfoimhmjaaAppO
import Derived.Test.YtjmgocfoimhmjaaLandW
import Derived.Test.YtjmgocfoimhmjaaDnowW
import Derived.Deep.RegionHeldLaw
namespace Go.Proofs.Ytjmgocfoimhmjaa
open Go.RowKit

theorem info_putL : (Try.prog.info? 100).map (fun i => (i.zero, i.size, i.bytes)) = some (some (.agg #[.int .i64 0, .string ⟨#[]⟩]), 2, 24) := by kernel_rfl
theorem kpQ {W : World} {M : Nat} {u v : Value} (h : W.cell? ⟨M, 0, none⟩ = some u ∧ W.cell? ⟨M, 1, none⟩ = some v) : W.drew.cell? ⟨M, 0, none⟩ = some u ∧ W.drew.cell? ⟨M, 1, none⟩ = some v := h
theorem kpQs {W : World} {M b : Nat} {u v x y : Value} (hb : M ≠ b) (h : W.cell? ⟨M, 0, none⟩ = some u ∧ W.cell? ⟨M, 1, none⟩ = some v) : ((W.setCell ⟨b, 0, none⟩ x).setCell ⟨b, 1, none⟩ y).cell? ⟨M, 0, none⟩ = some u ∧ ((W.setCell ⟨b, 0, none⟩ x).setCell ⟨b, 1, none⟩ y).cell? ⟨M, 1, none⟩ = some v :=
  ⟨(World.cell?_setCell_other _ _ _ _ (fun e => hb (by injection e with e; exact e.symm))).trans ((World.cell?_setCell_other _ _ _ _ (fun e => hb (by injection e with e; exact e.symm))).trans h.1), (World.cell?_setCell_other _ _ _ _ (fun e => hb (by injection e with e; exact e.symm))).trans ((World.cell?_setCell_other _ _ _ _ (fun e => hb (by injection e with e; exact e.symm))).trans h.2)⟩
theorem kpQl {W W' : World} {base M : Nat} {row : Option Nat} {u v : Value} (n0 : row ≠ some M) (h : W.cell? ⟨M, 0, none⟩ = some u ∧ W.cell? ⟨M, 1, none⟩ = some v) (hl : Left W W' base row) : W'.cell? ⟨M, 0, none⟩ = some u ∧ W'.cell? ⟨M, 1, none⟩ = some v :=
  ⟨hl.cell h.1 n0, hl.cell h.2 n0⟩
theorem src_strs {w : World} {B n c : Nat} {A : Option Addr} {xs : List ByteArray} (r : RowsIn w B A n c (fun z => [.string z]) 1 xs) : Src w A n (xs.map Value.string) := by
  rw [← flat_strs]; exact src_rows (enc := fun z => [Value.string z]) (k := 1) (fun _ => rfl) (by decide) r
theorem src_puts {w : World} {B n c : Nat} {A : Option Addr} {xs : List PutD} (r : RowsIn w B A n c PutD.cells 2 xs) : Src w A n (xs.flatMap PutD.cells) := src_rows (enc := PutD.cells) (k := 2) (fun _ => rfl) (by decide) r
theorem put_one (ws : List PutD) : ∀ u ∈ ws.flatMap PutD.cells, u.oneCell' = true := fun u hu => by
  obtain ⟨y, _, hy⟩ := List.mem_flatMap.1 hu
  simp [PutD.cells] at hy
  rcases hy with rfl | rfl <;> rfl
theorem put_len (ws : List PutD) : (ws.flatMap PutD.cells).length = ws.length * 2 := flat_len (enc := PutD.cells) (k := 2) (fun _ => rfl) ws
theorem own_puts {w : World} {base n c : Nat} {A : Option Addr} {xs : List PutD} (h : Owns w base 2 (.slice A n c) n (xs.flatMap PutD.cells)) : RowsIn w w.heap.size A n c PutD.cells 2 xs := h.rows (enc := PutD.cells) (k := 2) (fun _ => rfl) (by decide)
def LdPost (cs : List ByteArray) (ws : List PutD) (w : World) (e : Ending) (w' : World) : Prop := ∃ D d D' d', e = .returned (.agg #[.slice D cs.length d, .slice D' ws.length d']) ∧ Owns w' w.heap.size 1 (.slice D cs.length d) cs.length (cs.map Value.string) ∧ Owns w' w.heap.size 2 (.slice D' ws.length d') ws.length (ws.flatMap PutD.cells) ∧ Apart (.slice D cs.length d) (.slice D' ws.length d') ∧ Below w.heap.size w w'

set_option maxRecDepth 20000 in
set_option maxHeartbeats 2000000 in
theorem liked_any (A : Option Addr) (n c : Nat) (cs : List ByteArray) (A' : Option Addr) (n' c' : Nat) (ws : List PutD) (w : World) (r : RowsIn w w.heap.size A n c (fun z => [.string z]) 1 cs) (r' : RowsIn w w.heap.size A' n' c' PutD.cells 2 ws) (hs : n * 16 ≤ 140737488355328) (hs' : n' * 24 ≤ 140737488355328) :
    Calls Try.prog 62 #[.agg #[.slice A n c, .slice A' n' c']] w (LdPost cs ws w) := by
  have hlen := r.len
  subst hlen
  have hlen' := r'.len
  subst hlen'
  obtain ⟨wa, hwa⟩ : ∃ wa, wa = (w.alloc (.cells #[.slice A cs.length c, .slice A' ws.length c'] 41)).alloc (.cells zeroDsk 41) := ⟨_, rfl⟩
  have hza : wa.heap.size = w.heap.size + 2 := by rw [hwa]; simp
  have hba : Below w.heap.size w wa := by rw [hwa]; exact ((Below.refl _ _).alloc (Nat.le_refl _) _).alloc (by simp) _
  have hra : wa.heap[w.heap.size + 1]? = some (.cells zeroDsk 41 (0, 0)) := by
    rw [hwa]
    have := heap_alloc_new (w.alloc (.cells #[.slice A cs.length c, .slice A' ws.length c'] 41)) (.cells zeroDsk 41)
    rw [show (w.alloc (.cells #[.slice A cs.length c, .slice A' ws.length c'] 41)).heap.size = w.heap.size + 1 by simp] at this
    exact this
  have hrb : wa.heap[w.heap.size]? = some (.cells #[.slice A cs.length c, .slice A' ws.length c'] 41 (0, 0)) := by
    rw [hwa]; exact (heap_alloc_old _ _ (by simp)).trans (heap_alloc_new w _)
  have N1 : Hid (∀ W, Below w.heap.size w W → Src W A cs.length (cs.map Value.string)) := fun W h => src_strs (r.below h)
  have N2 : Hid (∀ W, Below w.heap.size w W → Src W A' ws.length (ws.flatMap PutD.cells)) := fun W h => src_puts (r'.below h)
  have L1 : Hid ((cs.map Value.string).length = cs.length * 1) := by simp [Hid]
  have L2 : Hid ((ws.flatMap PutD.cells).length = ws.length * 2) := put_len ws
  have M1 : Hid (∀ u ∈ cs.map Value.string, u.oneCell' = true) := fun u hu => by obtain ⟨y, _, rfl⟩ := List.mem_map.1 hu; rfl
  have M2 : Hid (∀ u ∈ ws.flatMap PutD.cells, u.oneCell' = true) := put_one ws
  have O1 : Hid (∀ W, Owns W (w.heap.size + 2) 1 (.slice none 0 0) 0 []) := fun W => Owns.nil _ _ _
  have O2 : Hid (∀ W, Owns W (w.heap.size + 2) 2 (.slice none 0 0) 0 []) := fun W => Owns.nil _ _ _
  have HS : Hid (wa.cell? ⟨w.heap.size, 0, none⟩ = some (.slice A cs.length c) ∧ wa.cell? ⟨w.heap.size, 1, none⟩ = some (.slice A' ws.length c')) := ⟨row_cell hrb 0, row_cell hrb 1⟩
  have HRA := Lib.hid hra
  have HWA := Lib.hid hwa
  have HBA := Lib.hid hba
  have HZA := Lib.hid hza
  have G4 : Hid (0 < 2 ∧ 0 < 1) := by simp [Hid]
  have G3 : Hid (0 + cs.length ≤ maxLen ∧ (0 + cs.length) * 16 ≤ 140737488355328 ∧ 0 + ws.length ≤ maxLen ∧ (0 + ws.length) * 24 ≤ 140737488355328) := by
    have := r.le; have := r.top; have := r'.le; have := r'.top
    simp only [Hid]; exact ⟨by omega, by omega, by omega, by omega⟩
  generalize hUU : cs.map Value.string = U at *
  generalize hUU' : ws.flatMap PutD.cells = U' at *
  have HUU := Lib.hid hUU
  have HUU' := Lib.hid hUU'
  clear hUU hUU' hs hs'
  clear r r' hwa hza hba hra hrb
  go_enter Try.func62, Try.ntmps62
  go_wp2
  rw [← HWA.out]
  have hs := HS.out
  go_region_held_law (fun W => W.cell? ⟨w.heap.size, 0, none⟩ = some (.slice A cs.length c) ∧ W.cell? ⟨w.heap.size, 1, none⟩ = some (.slice A' ws.length c'))
    (first | assumption | exact kpQ (by assumption) | exact kpQl (W := wa.drew) (fun e => by cases e) HS.out hl1 | exact kpQl (W := w1) (fun e => by cases e) (kpQl (W := wa.drew) (fun e => by cases e) HS.out hl1) hl2 | exact kpQs (by omega) (kpQl (W := w1) (fun e => by cases e) (kpQl (W := wa.drew) (fun e => by cases e) HS.out hl1) hl2))
    (first
      | (refine step_appO (P := Try.prog) (e := 9) (z := .string ⟨#[]⟩) (size := 1) (bytes := 16) (base := w.heap.size + 2) rfl (.const (.slice none 0 0)) (.tmp 4) 38 rfl Try.underlying38 info_strL rfl G4.out.2 none 0 0 [] rfl (O1.out _) (show w.heap.size + 2 ≤ wa.drew.heap.size from Nat.le_of_eq HZA.out.symm) A cs.length c U rfl L1.out (N1.out _ HBA.out.drew) M1.out G3.out.1 G3.out.2.1 ?_; intro A1 c1 w1 hown1 hl1 hn1)
      | (refine step_appO (P := Try.prog) (e := 100) (z := .agg #[.int .i64 0, .string ⟨#[]⟩]) (size := 2) (bytes := 24) (base := w.heap.size + 2) rfl (.const (.slice none 0 0)) (.tmp 7) 39 rfl Try.underlying39 info_putL rfl G4.out.1 none 0 0 [] rfl (O2.out _) (show w.heap.size + 2 ≤ w1.heap.size from Nat.le_trans (Nat.le_of_eq HZA.out.symm) hl1.size) A' ws.length c' U' rfl L2.out (N2.out _ (hl1.below (by omega) HBA.out.drew)) M2.out G3.out.2.2.1 G3.out.2.2.2 ?_; intro A2 c2 w2 hown2 hl2 hn2; have hrr := row_left (row_left (w := wa.drew) HRA.out hl1 (fun e => by cases e)) hl2 (fun e => by cases e); have v0 : w2.cell? ⟨w.heap.size + 1, 0, none⟩ = some (.slice none 0 0) := row_cell hrr 0; have v1 : w2.cell? ⟨w.heap.size + 1, 1, none⟩ = some (.slice none 0 0) := row_cell hrr 1; have v2 := row_cold hrr 0; have v3 := row_cold hrr 1))
  all_goals
    rename_i hHeld
    clear hHeld hs
    simp only [Nat.zero_add, List.nil_append] at hown1 hown2 hn2
    have hm := row_store (j := 1) (v := .slice A2 ws.length c2) (row_store (j := 0) (v := .slice A1 cs.length c1) hrr)
    have HM : Hid (((w2.setCell ⟨w.heap.size + 1, 0, none⟩ (.slice A1 cs.length c1)).setCell ⟨w.heap.size + 1, 1, none⟩ (.slice A2 ws.length c2)).heap[w.heap.size + 1]? = some (.cells #[.slice A1 cs.length c1, .slice A2 ws.length c2] 41 (0, 0))) := hm
    have q1 := hown1.apart hl2 (Apart.nil _ _ _)
    have q2 : Owns ((w2.setCell ⟨w.heap.size + 1, 0, none⟩ (.slice A1 cs.length c1)).setCell ⟨w.heap.size + 1, 1, none⟩ (.slice A2 ws.length c2)) (w.heap.size + 2) 1 (.slice A1 cs.length c1) cs.length U := (q1.setOther (fun e => by have e2 : w.heap.size + 2 ≤ w.heap.size + 1 := (q1.lt _ e).1; omega) _).setOther (fun e => by have e2 : w.heap.size + 2 ≤ w.heap.size + 1 := (q1.lt _ e).1; omega) _
    have q3 : Owns ((w2.setCell ⟨w.heap.size + 1, 0, none⟩ (.slice A1 cs.length c1)).setCell ⟨w.heap.size + 1, 1, none⟩ (.slice A2 ws.length c2)) (w.heap.size + 2) 2 (.slice A2 ws.length c2) ws.length U' := (hown2.setOther (fun e => by have e2 : w.heap.size + 2 ≤ w.heap.size + 1 := (hown2.lt _ e).1; omega) _).setOther (fun e => by have e2 : w.heap.size + 2 ≤ w.heap.size + 1 := (hown2.lt _ e).1; omega) _
    have q4 : Apart (.slice A1 cs.length c1) (.slice A2 ws.length c2) := fun g e e' => by
      have h1 := (hown1.lt g e).2
      rcases hn2 with h | h
      · rw [h] at e'; cases e'
      · have := h g e'; omega
    have q5 : Below w.heap.size w ((w2.setCell ⟨w.heap.size + 1, 0, none⟩ (.slice A1 cs.length c1)).setCell ⟨w.heap.size + 1, 1, none⟩ (.slice A2 ws.length c2)) := ((hl2.below (by omega) (hl1.below (by omega) HBA.out.drew)).setCell (show w.heap.size ≤ w.heap.size + 1 by omega) _).setCell (show w.heap.size ≤ w.heap.size + 1 by omega) _
    have Q2 := Lib.hid q2
    have Q3 := Lib.hid q3
    have Q4 := Lib.hid q4
    have Q5 := Lib.hid q5
    clear hm q1 q2 q3 q4 q5 hown1 hown2 hl1 hl2 hn1 hn2 hrr v0 v1 v2 v3
    generalize (w2.setCell ⟨w.heap.size + 1, 0, none⟩ (.slice A1 cs.length c1)).setCell ⟨w.heap.size + 1, 1, none⟩ (.slice A2 ws.length c2) = w9 at *
    go_wp2
    refine bodyPost_ret (results_cell_row rfl _ _ (w.heap.size + 1) _ #[.slice A1 cs.length c1, .slice A2 ws.length c2] (0, 0) _ rfl HM.out Try.underlying41 rfl info_dsk) rfl ?_
    exact ⟨A1, c1, A2, c2, rfl, by rw [HUU.out]; exact Q2.out.more (by omega), by rw [HUU'.out]; exact Q3.out.more (by omega), Q4.out, Q5.out⟩
end Go.Proofs.Ytjmgocfoimhmjaa
