/- A store of two cells as one step: what it does, what it lists. No condition of ours. -/
import Derived.Test.YtebgcemglicjiaaCwJb
import Derived.Conc.EventLaws
import Derived.Conc.CrowdComm
import Derived.Conc.TokenWalk
import Derived.Laws.CopyRow
import Derived.Laws.Rows
import Derived.Laws.Tables
namespace Go.Proofs.Ytebgcemglicjiaa
open Go.Conc
/-- One cell of a row. -/
theorem store_cell {P : Program} {w : World} {g q : Nat} {t : TypeId} {cur : Array Value} (hg : w.heap[g]? = some (.cells cur t (0, 0))) (hq : q < cur.size) {v : Value} (h1 : v.oneCell' = true) :
    (store ⟨g, q, none⟩ v).run P w = .ok () (w.setRow g (cur.setIfInBounds q v)) ∧ ∀ es, (store ⟨g, q, none⟩ v).events P w es = es.push ⟨.cell ⟨g, q, none⟩, true, false⟩ := by
  have hcell : w.cell? ⟨g, q, none⟩ = some cur[q] := by simp [World.cell?, hg, hq]
  have hfro : w.frozen? ⟨g, q, none⟩ = false := by simp [World.frozen?, hg]
  constructor
  · rw [run_store P w _ v _ h1, hcell]
    simp [hfro, setCell_eq_setRow w g q cur t (0, 0) v hg]
  · intro es
    rw [events_store P w es _ v _ h1, hcell]
    simp only [hfro, Bool.false_eq_true, if_false]
    rfl
theorem store_two {P : Program} {w : World} {g q : Nat} {t ty : TypeId} {cur : Array Value} (hg : w.heap[g]? = some (.cells cur t (0, 0))) (hq : q + 1 < cur.size) {u v : Value} (h1 : u.oneCell' = true) (h2 : v.oneCell' = true) (hi : ∀ w, (sizeOf ty).run P w = .ok 2 w) (hie : ∀ w es, (sizeOf ty).events P w es = es) :
    (storeVar ty ⟨g, q, none⟩ (.agg #[u, v])).run P w = .ok () (w.setRow g ((cur.setIfInBounds q u).setIfInBounds (q + 1) v)) ∧
      ∀ es, (storeVar ty ⟨g, q, none⟩ (.agg #[u, v])).events P w es = (es.push ⟨.cell ⟨g, q, none⟩, true, false⟩).push ⟨.cell ⟨g, q + 1, none⟩, true, false⟩ := by
  have a0 : (⟨g, q, none⟩ : Addr).add 0 = ⟨g, q, none⟩ := by unfold Addr.add; split <;> simp_all
  have a1 : (⟨g, q, none⟩ : Addr).add 1 = ⟨g, q + 1, none⟩ := by unfold Addr.add; split <;> simp_all
  obtain ⟨r0, e0⟩ := store_cell (P := P) hg (show q < cur.size by omega) h1
  have hg' : (w.setRow g (cur.setIfInBounds q u)).heap[g]? = some (.cells (cur.setIfInBounds q u) t (0, 0)) := setRow_heap w g cur _ t _ hg
  obtain ⟨r1, e1⟩ := store_cell (P := P) hg' (show q + 1 < (cur.setIfInBounds q u).size by simp; omega) h2
  rw [setRow_setRow] at r1
  constructor
  · simp [storeVar, hi, Value.cells, storeCells, a0, a1, r0, r1, Result.andThen]
  · intro es
    simp [storeVar, hi, hie, Value.cells, storeCells, a0, a1, r0, e0, e1, Result.evThen]
theorem setRow_at {w : World} {g : Nat} {cur cs : Array Value} {t : TypeId} (hg : w.heap[g]? = some (.cells cur t (0, 0))) : w.setRow g cs = { w with heap := w.heap.setIfInBounds g (.cells cs t) } := by
  simp only [World.setRow]
  rw [modify_eq_set _ _ _ _ hg]
section
variable {P : Program} {main : Bool} {b : Frame} {a : Act} {k : List Item} {cs : List Frame} {w : World} {ops : Array Oper} {i : Nat} {rest : List Nat} {o : Oper}
/-- The whole step. -/
theorem stepG_two {g q : Nat} {t ty : TypeId} {cur : Array Value} {x y : Operand} {u v : Value} (ho : ops[i]? = some o) (hw : Region.wanted o (yielded ops a.tmps) = true) (hk : b.kind ≠ .early) (hop : o.op = .store ty x y)
    (hx : a.eval x = .pointer (some ⟨g, q, none⟩)) (hy : a.eval y = .agg #[u, v]) (hg : w.heap[g]? = some (.cells cur t (0, 0))) (hq : q + 1 < cur.size) (h1 : u.oneCell' = true) (h2 : v.oneCell' = true)
    (hi : ∀ w, (sizeOf ty).run P w = .ok 2 w) (hie : ∀ w es, (sizeOf ty).events P w es = es) (hqu : (P.funcs[b.fn]?).any (·.norace) = false) :
    stepG P main (G (b.at a (.inRegion ops (i :: rest) :: k)) cs) w = .go (G (b.at (a.put o.dst undef) (.inRegion ops rest :: k)) cs) { w with heap := w.heap.setIfInBounds g (.cells ((cur.setIfInBounds q u).setIfInBounds (q + 1) v) t) }
      #[⟨.cell ⟨g, q, none⟩, true, false⟩, ⟨.cell ⟨g, q + 1, none⟩, true, false⟩] := by
  obtain ⟨r, e⟩ := store_two (P := P) hg hq h1 h2 hi hie
  rw [setRow_at hg] at r
  have hr : (execOp a.eval o).run P w = .ok .skip { w with heap := w.heap.setIfInBounds g (.cells ((cur.setIfInBounds q u).setIfInBounds (q + 1) v) t) } := by
    unfold execOp
    simp only [hop, hx, hy]
    simp [Instr.storeAt, Instr.sureAddr, r, Result.andThen]
  have he : (execOp a.eval o).events P w #[] = #[⟨.cell ⟨g, q, none⟩, true, false⟩, ⟨.cell ⟨g, q + 1, none⟩, true, false⟩] := by
    unfold execOp
    simp only [hop, hx, hy]
    simp [Instr.storeAt, Instr.sureAddr, e]
  rw [stepG_none ho hw hk hr]
  unfold listed
  rw [he, seen_eq hqu (by simp)]
end
end Go.Proofs.Ytebgcemglicjiaa
