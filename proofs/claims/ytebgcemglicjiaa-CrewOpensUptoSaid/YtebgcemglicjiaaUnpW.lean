/- bits.From's making and bits.Unpack, walked. -/
import Derived.Test.YtebgcemglicjiaaFromW
import Derived.Test.YtebgcemglicjiaaOwJa
import Derived.OneCell
namespace Go.Proofs.Ytebgcemglicjiaa
open Go.RowKit Go.PlainAid

set_option maxRecDepth 20000 in
set_option maxHeartbeats 400000 in
theorem from_any (s : ByteArray) (p : Nat) (w : World) :
    Calls Try.prog 56 #[.string s, .int .i64 p] w fun e w' => ∃ ba bs, e = .returned (.func (.func 75) #[] #[.pointer (some ⟨ba, 0, none⟩), .pointer (some ⟨bs, 0, none⟩)]) ∧ Rd w' w.heap.size ba bs s p ∧ Below w.heap.size w w' := by
  go_enter Try.func56, Try.ntmps56
  go_wp2
  go_ret
  have e0 : ∀ (a b : Obj), ((w.alloc a).alloc b).heap[w.heap.size]? = some a := fun a b => by
    rw [heap_alloc_old _ _ (by simp)]; exact heap_alloc_new w a
  have e1 : ∀ (a b : Obj), ((w.alloc a).alloc b).heap[w.heap.size + 1]? = some b := fun a b => by
    have := heap_alloc_new (w.alloc a) b
    simpa using this
  exact ⟨w.heap.size + 1, w.heap.size, rfl, ⟨by omega, by omega, by simp, by simp; omega, by omega, cell_of_one (e1 _ _), free_of_one (e1 _ _), cell_of_one (e0 _ _)⟩, ((Below.refl _ _).alloc (Nat.le_refl _) _).alloc (by simp) _⟩

theorem info_u64u : (Try.prog.info? 35).map (fun i => (i.zero, i.size, i.bytes)) = some (some (.int .u64 0), 1, 8) := by kernel_rfl
theorem no_u64s (w : World) (B : Nat) : RowsIn w B none 0 0 (fun z => [.int .u64 z]) 1 ([] : List Int) := ⟨rfl, Nat.le_refl _, Nat.zero_le _, fun i x h => by simp at h⟩
theorem flat_u64s (xs : List Int) : xs.flatMap (fun z => [Value.int .u64 z]) = xs.map (Value.int .u64) := by
  induction xs with
  | nil => rfl
  | cons x r ih => simp [List.flatMap_cons, ih]
theorem own_u64s {w : World} {base n c : Nat} {A : Option Addr} {xs : List Int} (h : Owns w base 1 (.slice A n c) n (xs.map (Value.int .u64))) : RowsIn w w.heap.size A n c (fun z => [.int .u64 z]) 1 xs := by
  rw [← flat_u64s] at h
  exact h.rows (enc := fun z => [Value.int .u64 z]) (k := 1) (fun _ => rfl) Nat.one_pos
theorem Rd.left {W w' : World} {base B ba bs p : Nat} {s : ByteArray} {row : Option Nat} (h : Rd W base ba bs s p) (hl : Left W w' B row) (hB : ∀ g, row = some g → ba < g ∧ bs < g) : Rd w' base ba bs s p :=
  h.on hl.size (hl.grown.block bs h.lt' (fun e => by have := (hB bs e.symm).2; omega))
    ((World.cell?_of_block (a := ⟨ba, 0, none⟩) (hl.grown.block ba h.lt (fun e => by have := (hB ba e.symm).1; omega))).trans h.at_)
    ((World.frozen?_of_block (a := ⟨ba, 0, none⟩) (hl.grown.block ba h.lt (fun e => by have := (hB ba e.symm).1; omega))).trans h.free)
theorem unp_first (ws : List Int) : ∃ J, J ≤ ws.length ∧ (∀ i, i < J → ∃ x : Nat, ws[i]? = some (x : Int) ∧ x ≤ 64) ∧ (J < ws.length → ∃ x, ws[J]? = some x ∧ ¬ WOk x) := by
  obtain ⟨J, a, b, c⟩ := first_to (G := fun i => ∃ x : Nat, ws[i]? = some (x : Int) ∧ x ≤ 64) (B := fun i => ∃ x, ws[i]? = some x ∧ ¬ WOk x) ws.length (fun i hi => by
    have e := List.getElem?_eq_getElem hi
    by_cases h : WOk ws[i]
    · exact .inl ⟨ws[i].toNat, by rw [e]; congr 1; have := h.1; omega, by have := h.2; omega⟩
    · exact .inr ⟨_, e, h⟩)
  exact ⟨J, a, b, c⟩
theorem unp_all {ws : List Int} {J : Nat} (hJ : J = ws.length) (h : ∀ i, i < J → ∃ x : Nat, ws[i]? = some (x : Int) ∧ x ≤ 64) : ∀ x ∈ ws, WOk x := fun x hx => by
  obtain ⟨i, hi, rfl⟩ := List.mem_iff_getElem.1 hx
  obtain ⟨y, e, hy⟩ := h i (by omega)
  rw [List.getElem?_eq_getElem hi] at e
  injection e with e
  rw [e]; exact ⟨by omega, by omega⟩

def UnPost (s : ByteArray) (ws : List Int) (w : World) (e : Ending) (w' : World) : Prop := ∃ A q d, e = .returned (.tuple #[.slice A q d, .int .i64 (unpE s ws)]) ∧ RowsIn w' w'.heap.size A q d (fun z => [.int .u64 z]) 1 (unpX s ws) ∧ Below w.heap.size w w'
theorem unPost_no {s : ByteArray} {ws : List Int} {w w' : World} {k : Int} (h : unpE s ws = k ∧ unpX s ws = []) (hb : Below w.heap.size w w') : UnPost s ws w (.returned (.tuple #[.slice none 0 0, .int .i64 k])) w' :=
  ⟨none, 0, 0, by rw [h.1], by rw [h.2]; exact no_u64s _ _, hb⟩

end Go.Proofs.Ytebgcemglicjiaa
