/- Struct locals, said as whole blocks; the results 'a block and a value'. -/
import Derived.Test.YtgidfmdbaimcnaaDoorApp
import Derived.Laws.Rows
import Derived.Great.BuildSlice
import Derived.Laws.ResultCell
import Derived.Laws.CopyOwn
import Derived.Deep.WholeRow
namespace Go.Proofs.YtgidfmdbaimcnaaDoor
open Go.RowKit

theorem results_cell_tmp_row {P : Program} {fn : Func} {p u : Tmp} {ty : TypeId} (h : fn.results = #[.cell p ty, .tmp u]) (tmps : Array Value) (w : World) (g : Nat) (t : TypeId) (cs : Array Value) (fr : Nat × Nat) (d : TypeDesc)
    (hp : tmps.getD p undef = .pointer (some ⟨g, 0, none⟩)) (hg : w.heap[g]? = some (.cells cs t fr))
    (hu : P.underlying ty = some d) (hd : (match d with | .struct _ | .array _ _ => true | _ => false) = true) (hi : (P.info? ty).map (·.size) = some cs.size) :
    (results fn tmps).run P w = .ok (.tuple #[.agg cs, tmps.getD u undef]) w := by
  have hp' : tmps[p]?.getD undef = .pointer (some ⟨g, 0, none⟩) := by simpa using hp
  simp [results, h, hp', asAddr, run_loadVar_row w g t ty cs fr d hg hu hd hi]
section
variable {w w' : World} {b : Nat} {t : TypeId}
theorem row_lt {x : Obj} (h : w.heap[b]? = some x) : b < w.heap.size := (Array.getElem?_eq_some_iff.1 h).1
theorem row_alloc {x : Obj} (h : w.heap[b]? = some x) (o : Obj) : (w.alloc o).heap[b]? = some x := (heap_alloc_old _ _ (row_lt h)).trans h
theorem row_below {B : Nat} {x : Obj} (h : w.heap[b]? = some x) (hB : b < B) (hb : Below B w w') : w'.heap[b]? = some x := (hb.block _ hB).trans h
theorem row_left {base : Nat} {row : Option Nat} {x : Obj} (h : w.heap[b]? = some x) (hl : Left w w' base row) (hne : row ≠ some b) : w'.heap[b]? = some x := (hl.grown.block _ (row_lt h) (fun e => hne e.symm)).trans h
theorem row_other {x : Obj} {a : Addr} {v : Value} (h : w.heap[b]? = some x) (hne : b ≠ a.block) : (w.setCell a v).heap[b]? = some x := (heap_setCell_other w a b v hne).trans h
theorem row_cell {cs : Array Value} {fr : Nat × Nat} (h : w.heap[b]? = some (.cells cs t fr)) (j : Nat) : w.cell? ⟨b, j, none⟩ = cs[j]? := cell_of_row w b j cs t fr h
theorem row_cold {cs : Array Value} (h : w.heap[b]? = some (.cells cs t (0, 0))) (j : Nat) : w.frozen? ⟨b, j, none⟩ = false := frozen_of_row w b j cs t h
theorem row_set {cs cs' : Array Value} {fr : Nat × Nat} (h : w.heap[b]? = some (.cells cs t fr)) : (w.setRow b cs').heap[b]? = some (.cells cs' t fr) := setRow_heap w b cs cs' t fr h
theorem Owns.setRow {base size n : Nat} {v : Value} {xs : List Value} (h : Owns w base size v n xs) (hb : b < base) (cs : Array Value) : Owns (w.setRow b cs) base size v n xs :=
  h.kept (fun g hg => setRow_other w b g cs (by have := (h.lt g hg).1; omega)) (by simp)
theorem row_store {cs : Array Value} {j : Nat} {v : Value} (h : w.heap[b]? = some (.cells cs t (0, 0))) : (w.setCell ⟨b, j, none⟩ v).heap[b]? = some (.cells (cs.setIfInBounds j v) t (0, 0)) := heap_setCell_same w b j cs t v h
theorem kept4 {w1 w2 : World} {v0 v1 v2 v3 : Value} {t : TypeId} (hb : Below (w1.alloc (.cells #[v0, v1, v2, v3] t)).heap.size (w1.alloc (.cells #[v0, v1, v2, v3] t)) w2) :
    w2.cell? ⟨w1.heap.size, 0, none⟩ = some v0 ∧ w2.cell? ⟨w1.heap.size, 1, none⟩ = some v1 ∧ w2.cell? ⟨w1.heap.size, 2, none⟩ = some v2 ∧ w2.cell? ⟨w1.heap.size, 3, none⟩ = some v3 ∧ w1.heap.size < w2.heap.size := by
  have h := heap_alloc_new w1 (.cells #[v0, v1, v2, v3] t)
  have hz : w1.heap.size < (w1.alloc (.cells #[v0, v1, v2, v3] t)).heap.size := by simp
  have h' := row_below h hz hb
  have := hb.size
  exact ⟨row_cell h' 0, row_cell h' 1, row_cell h' 2, row_cell h' 3, by omega⟩
theorem kept2 {w1 w2 : World} {v0 v1 : Value} {t : TypeId} (hb : Below (w1.alloc (.cells #[v0, v1] t)).heap.size (w1.alloc (.cells #[v0, v1] t)) w2) :
    w2.cell? ⟨w1.heap.size, 0, none⟩ = some v0 ∧ w2.cell? ⟨w1.heap.size, 1, none⟩ = some v1 ∧ w1.heap.size < w2.heap.size := by
  have h := heap_alloc_new w1 (.cells #[v0, v1] t)
  have hz : w1.heap.size < (w1.alloc (.cells #[v0, v1] t)).heap.size := by simp
  have h' := row_below h hz hb
  have := hb.size
  exact ⟨row_cell h' 0, row_cell h' 1, by omega⟩
theorem carry_rows {α : Type} {enc : α → List Value} {k n c : Nat} {A : Option Addr} {xs : List α} {w1 w2 : World} {o : Obj} (r : RowsIn w1 w1.heap.size A n c enc k xs) (hb : Below (w1.alloc o).heap.size (w1.alloc o) w2) (o' : Obj) :
    RowsIn (w2.alloc o') (w2.alloc o').heap.size A n c enc k xs := by
  have h0 : w1.heap.size ≤ (w1.alloc o).heap.size := by simp
  have h1 := hb.size
  exact (((r.alloc (Nat.le_refl _) o).below (hb.mono h0)).alloc (by omega) o').more (by simp; omega)
theorem carry_new {α : Type} {enc : α → List Value} {k n c : Nat} {A : Option Addr} {xs : List α} {w1 : World} (r : RowsIn w1 w1.heap.size A n c enc k xs) (o' : Obj) : RowsIn (w1.alloc o') (w1.alloc o').heap.size A n c enc k xs :=
  (r.alloc (Nat.le_refl _) o').more (by simp)
theorem carry_below {w w1 w2 : World} {o : Obj} (h : Below w.heap.size w w1) (hb : Below (w1.alloc o).heap.size (w1.alloc o) w2) (o' : Obj) : Below w.heap.size w (w2.alloc o') := by
  have h0 := h.size
  have h1 := hb.size
  have h2 : w1.heap.size ≤ (w1.alloc o).heap.size := by simp
  exact ((h.alloc h0 o).trans (hb.mono (by omega))).alloc (by omega) o'
end
end Go.Proofs.YtgidfmdbaimcnaaDoor
