/- file.sized, walked. -/
import Derived.Test.YtfhgglghofhndaaFwhW
import Derived.Test.YtfhgglghofhndaaFcutP
import Derived.Test.YtfhgglghofhndaaStep
namespace Go.Proofs.Ytfhgglghofhndaa
open Go.RowKit Go.PlainAid

theorem info_strZ : (Try.prog.info? 9).map (fun i => (i.zero, i.size, i.bytes)) = some (some (.string ⟨#[]⟩), 1, 16) := by kernel_rfl
theorem info_datZ : (Try.prog.info? 24).map (·.size) = some 2 := by kernel_rfl
abbrev zeroDaZ : Array Value := #[.int .i64 0, .slice none 0 0]
def empRw (N : Nat) : Array Value := Array.replicate N (.string ⟨#[]⟩)
theorem mk_emp (N : Nat) (hN : N ≤ 128) : ∀ W : World, (Instr.makeSlice 22 (.int .i64 (N : Int)) (.int .i64 (N : Int))).run Try.prog W = .ok (.slice (some ⟨W.heap.size, 0, none⟩) N N) (W.alloc (.cells (empRw N) 9)) := fun W => by
  obtain ⟨i, hi, hzz⟩ := Option.map_eq_some_iff.1 info_strZ
  simp only [Prod.mk.injEq] at hzz
  obtain ⟨hz, hs, hbb⟩ := hzz
  have := run_make (P := Try.prog) W 22 9 i (.string ⟨#[]⟩) Try.underlying22 hi hz .i64 .i64 N N (by omega) (by omega) (by rw [hbb]; omega) (by omega)
  rw [hs] at this
  rw [this, Int.toNat_natCast]
  have e : madeCells (Value.string ⟨#[]⟩).cells (N * 1) = empRw N := by
    apply Array.ext'
    rw [Nat.mul_one]
    unfold empRw
    rw [Array.toList_replicate]
    exact toList_madeCells_one _ _
  rw [e]
/-- The parts that are laid of the first i. -/
def sdL (ps : List ByteArray) (z q i : Nat) : List ByteArray := (List.range q).map (fun j => if j < i then cutAt ps z j else mkS [])
theorem sdL_len (ps : List ByteArray) (z q i : Nat) : (sdL ps z q i).length = q := by simp [sdL]
theorem sdL_get {ps : List ByteArray} {z q i j : Nat} (h : j < q) : (sdL ps z q i)[j]? = some (if j < i then cutAt ps z j else mkS []) := by simp [sdL, List.getElem?_range h]
theorem sdL_set {ps : List ByteArray} {z q i : Nat} (h : i < q) : (sdL ps z q i).set i (cutAt ps z i) = sdL ps z q (i + 1) := by
  apply List.ext_getElem?
  intro j
  by_cases hj : j < q
  · rw [List.getElem?_set, sdL_len, sdL_get hj, sdL_get hj]
    by_cases e : i = j
    · subst e; simp [h]
    · rw [if_neg e]
      by_cases hji : j < i
      · rw [if_pos hji, if_pos (by omega)]
      · rw [if_neg hji, if_neg (by omega)]
  · rw [List.getElem?_eq_none (by simp [sdL_len]; omega), List.getElem?_eq_none (by rw [sdL_len]; omega)]
theorem sdL_skip {ps : List ByteArray} {z q i : Nat} (h : cutAt ps z i = mkS []) : sdL ps z q i = sdL ps z q (i + 1) := by
  apply List.map_congr_left
  intro j _
  by_cases hji : j < i
  · rw [if_pos hji, if_pos (by omega)]
  · rw [if_neg hji]
    by_cases e : j = i
    · subst e; rw [if_pos (by omega), h]
    · rw [if_neg (by omega)]
theorem sdL_all {ps : List ByteArray} {z i : Nat} (h : ∀ j, i ≤ j → j < npt z → cutAt ps z j = mkS []) : sdL ps z (npt z) i = cutL ps z := by
  apply List.map_congr_left
  intro j hj
  have hj := List.mem_range.1 hj
  by_cases hji : j < i
  · rw [if_pos hji]
  · rw [if_neg hji, h j (by omega) hj]
theorem sdL_zero (ps : List ByteArray) (z q : Nat) : (sdL ps z q 0).map Value.string = (empRw q).toList := by
  unfold sdL empRw
  rw [List.map_map, Array.toList_replicate]
  apply List.ext_getElem?
  intro j
  by_cases hj : j < q
  · rw [List.getElem?_map, List.getElem?_range hj, List.getElem?_replicate, if_pos hj]; rfl
  · rw [List.getElem?_eq_none (by simp; omega), List.getElem?_eq_none (by simp; omega)]
theorem own_made (w : World) (q : Nat) (hq : q ≤ maxLen) (t : TypeId) : Owns (w.alloc (.cells (empRw q) t)) w.heap.size 1 (.slice (some ⟨w.heap.size, 0, none⟩) q q) q (empRw q).toList := by
  refine ⟨by simp [empRw], .inr ⟨w.heap.size, 0, q, rfl, Nat.le_refl _, by simp, Nat.le_refl _, hq, fun j u hu => ?_, fun j hj => ⟨?_, ?_⟩⟩⟩
  · rw [Nat.zero_add, row_cell (heap_alloc_new w _) j]; simpa using hu
  · rw [Nat.zero_add, row_cell (heap_alloc_new w _) j]
    simp [empRw, Array.getElem?_replicate, show j < q by omega]
  · rw [Nat.zero_add]; exact row_cold (heap_alloc_new w _) j

/-- file.sized's state: the list in block w.heap.size + 2, the new file in + 3. -/
structure SdI (ps : List ByteArray) (z : Nat) (w : World) (sz : Int) (A : Option Addr) (c : Nat) (i : Nat) (wr : World) : Prop where
  own : Owns wr (w.heap.size + 2) 1 (.slice (some ⟨w.heap.size + 2, 0, none⟩) (npt z) (npt z)) (npt z) ((sdL ps z (npt z) i).map Value.string)
  out : wr.heap[w.heap.size + 3]? = some (.cells #[.int .i64 z, .slice (some ⟨w.heap.size + 2, 0, none⟩) (npt z) (npt z)] 24 (0, 0))
  box : wr.heap[w.heap.size]? = some (.cells #[.int .i64 sz, .slice A ps.length c] 24 (0, 0))
  res : wr.heap[w.heap.size + 1]? = some (.cells zeroDaZ 24 (0, 0))
  below : Below w.heap.size w wr
  size : w.heap.size + 4 ≤ wr.heap.size
section
variable {ps : List ByteArray} {z c i : Nat} {w wr w1 : World} {sz : Int} {A : Option Addr}
theorem SdI.go (h : SdI ps z w sz A c i wr) (hb : Below wr.heap.size wr w1) : SdI ps z w sz A c i w1 :=
  { own := h.own.fresh_below hb, out := row_below h.out (row_lt h.out) hb, box := row_below h.box (row_lt h.box) hb, res := row_below h.res (row_lt h.res) hb, below := h.below.trans (hb.mono h.below.size), size := Nat.le_trans h.size hb.size }
theorem SdI.set (h : SdI ps z w sz A c i wr) (hi : i < npt z) (V : ByteArray) (hV : cutAt ps z i = V) : SdI ps z w sz A c (i + 1) (wr.setCell ⟨w.heap.size + 2, i, none⟩ (.string V)) := by
  refine { own := ?_, out := row_other (a := ⟨w.heap.size + 2, i, none⟩) h.out (by simp), box := row_other (a := ⟨w.heap.size + 2, i, none⟩) h.box (by simp), res := row_other (a := ⟨w.heap.size + 2, i, none⟩) h.res (by simp), below := h.below.setCell (show w.heap.size ≤ w.heap.size + 2 by omega) _, size := by simp [World.setCell]; exact h.size }
  have := h.own.set i (.string V)
  rw [Nat.zero_add, ← List.map_set, ← hV, sdL_set hi] at this
  rw [hV] at this
  exact this
theorem SdI.skip (h : SdI ps z w sz A c i wr) (e : cutAt ps z i = mkS []) : SdI ps z w sz A c (i + 1) wr := { h with own := by rw [← sdL_skip e]; exact h.own }
theorem SdI.cells (h : SdI ps z w sz A c i wr) : wr.cell? ⟨w.heap.size + 3, 1, none⟩ = some (.slice (some ⟨w.heap.size + 2, 0, none⟩) (npt z) (npt z)) ∧ wr.cell? ⟨w.heap.size, 1, none⟩ = some (.slice A ps.length c) ∧ wr.cell? ⟨w.heap.size + 3, 0, none⟩ = some (.int .i64 z) := ⟨row_cell h.out 1, row_cell h.box 1, row_cell h.out 0⟩
theorem SdI.at_ (h : SdI ps z w sz A c i wr) (hi : i < npt z) : (wr.cell? ⟨w.heap.size + 2, i, none⟩).isSome = true ∧ wr.frozen? ⟨w.heap.size + 2, i, none⟩ = false := by
  rcases h.own.2 with ⟨e, _⟩ | ⟨g, o, q, e, _, _, hq, _, _, h6⟩
  · cases e
  · injection e with e1 e2 e3
    injection e1 with e1
    injection e1 with e1 e4
    subst e1; subst e4
    have := h6 i (by omega)
    rwa [Nat.zero_add] at this
theorem SdI.old (h : SdI ps z w sz A c i wr) (hi : i < npt z) : ∃ u, wr.cell? ⟨w.heap.size + 2, i, none⟩ = some u := Option.isSome_iff_exists.1 (h.at_ hi).1
end
theorem cutAt_none {ps : List ByteArray} {z j : Nat} (h : ps.length ≤ j) : cutAt ps z j = mkS [] := by unfold cutAt; rw [List.getElem?_eq_none h]
theorem cutAt_emp {ps : List ByteArray} {z j : Nat} {p : ByteArray} (h : ps[j]? = some p) (hp : p.size = 0) : cutAt ps z j = mkS [] := by unfold cutAt; rw [h]; simp [cutPt, hp]
theorem cutAt_cut {ps : List ByteArray} {z j : Nat} {p : ByteArray} (h : ps[j]? = some p) (hp : p.size ≠ 0) (hw : wid z j ≤ p.size) : cutAt ps z j = p.extract 0 (wid z j) := by
  unfold cutAt; rw [h, ext_mk]; simp only [cutPt, if_neg hp]
  rw [show wid z j - p.size = 0 by omega]; simp [zer]
theorem cutAt_pad {ps : List ByteArray} {z j : Nat} {p : ByteArray} (h : ps[j]? = some p) (hp : p.size ≠ 0) (hw : ¬ wid z j ≤ p.size) : cutAt ps z j = mkS (bl p ++ zer (wid z j - p.size)) := by
  unfold cutAt; rw [h]; simp only [cutPt, if_neg hp]
  rw [List.take_of_length_le (by rw [bl_len]; omega)]
end Go.Proofs.Ytfhgglghofhndaa
