/- linenref.Parted: its loop's state. -/
import Derived.Test.YtfhgglghofhndaaFwhW
import Derived.Test.YtfhgglghofhndaaFcutP
import Derived.Test.YtfhgglghofhndaaStep
namespace Go.Proofs.Ytfhgglghofhndaa
open Go.RowKit Go.PlainAid

theorem info_strF : (Try.prog.info? 9).map (fun i => (i.zero, i.size, i.bytes)) = some (some (.string ⟨#[]⟩), 1, 16) := by kernel_rfl
theorem info_dat : (Try.prog.info? 24).map (·.size) = some 2 := by kernel_rfl
abbrev zeroDat : Array Value := #[.int .i64 0, .slice none 0 0]
/-- What a function value handed in says of the first N clusters. -/
def Holes (f : FuncId) (caps : Array Value) (B : Nat) (w : World) (N : Nat) (g : Nat → Bool) : Prop :=
  ∀ (i : Nat) (W : World), i < N → Below B w W → Calls Try.prog f (#[.int .i64 (i : Int)] ++ caps) W fun e w' => e = .returned (.bool (g i)) ∧ Below W.heap.size W w'
def ptAt (g : Nat → Bool) (s : ByteArray) (i : Nat) : ByteArray := if g i then mkS [] else mkS (((bl s).drop (512 * i)).take (wid s.size i))
def ptdL (g : Nat → Bool) (s : ByteArray) (n : Nat) : List ByteArray := (List.range n).map (ptAt g s)
theorem ptdL_len (g : Nat → Bool) (s : ByteArray) (n : Nat) : (ptdL g s n).length = n := by simp [ptdL]
theorem ptdL_succ (g : Nat → Bool) (s : ByteArray) (n : Nat) : ptdL g s (n + 1) = ptdL g s n ++ [ptAt g s n] := by simp [ptdL, List.range_succ]
theorem own_strsF {w : World} {base n c : Nat} {A : Option Addr} {xs : List ByteArray} (h : Owns w base 1 (.slice A n c) n (xs.map Value.string)) : RowsIn w w.heap.size A n c (fun z => [.string z]) 1 xs := by
  have h' : Owns w base 1 (.slice A n c) n (xs.flatMap (fun z => [Value.string z])) := by rw [← List.map_eq_flatMap]; exact h
  exact h'.rows (enc := fun z => [.string z]) (k := 1) (fun _ => rfl) (by decide)
/-- The file that is being parted. -/
structure PdI (g : Nat → Bool) (s : ByteArray) (w : World) (i : Nat) (A : Option Addr) (c : Nat) (wr : World) : Prop where
  own : Owns wr (w.heap.size + 2) 1 (.slice A i c) i ((ptdL g s i).map Value.string)
  out : wr.heap[w.heap.size + 1]? = some (.cells #[.int .i64 s.size, .slice A i c] 24 (0, 0))
  res : wr.heap[w.heap.size]? = some (.cells zeroDat 24 (0, 0))
  below : Below w.heap.size w wr
  size : w.heap.size + 2 ≤ wr.heap.size
section
variable {g : Nat → Bool} {s : ByteArray} {w wr w1 w3 : World} {i c c3 : Nat} {A A3 : Option Addr}
theorem PdI.go (h : PdI g s w i A c wr) (hb : Below wr.heap.size wr w1) : PdI g s w i A c w1 :=
  { own := h.own.fresh_below hb, out := row_below h.out (row_lt h.out) hb, res := row_below h.res (row_lt h.res) hb, below := h.below.trans (hb.mono h.below.size), size := Nat.le_trans h.size hb.size }
theorem PdI.ne (h : PdI g s w i A c wr) {b : Nat} (hb : b < w.heap.size + 2) : Value.ownBlock (.slice A i c) ≠ some b := fun e => by have := (h.own.lt _ e).1; omega
theorem PdI.add (h : PdI g s w i A c wr) (hown : Owns w3 (w.heap.size + 2) 1 (.slice A3 (i + 1) c3) (i + 1) ((ptdL g s i).map Value.string ++ [.string (ptAt g s i)])) (hl : Left wr w3 (w.heap.size + 2) (Value.ownBlock (.slice A i c))) :
    PdI g s w (i + 1) A3 c3 (w3.setCell ⟨w.heap.size + 1, 1, none⟩ (.slice A3 (i + 1) c3)) := by
  have ho : Value.ownBlock (.slice A3 (i + 1) c3) ≠ some (w.heap.size + 1) := fun e => by have := (hown.lt _ e).1; omega
  refine { own := ?_, out := ?_, res := ?_, below := ?_, size := ?_ }
  · rw [ptdL_succ, List.map_append]
    exact hown.setOther ho _
  · exact row_store (j := 1) (v := .slice A3 (i + 1) c3) (row_left h.out hl (h.ne (by omega)))
  · exact row_other (a := ⟨w.heap.size + 1, 1, none⟩) (row_left h.res hl (h.ne (by omega))) (by simp)
  · exact (hl.below (by omega) h.below).setCell (show w.heap.size ≤ w.heap.size + 1 by omega) _
  · have := hl.size; have := h.size; simp [World.setCell]; omega
theorem PdI.cells (h : PdI g s w i A c wr) (hl : Left wr w3 (w.heap.size + 2) (Value.ownBlock (.slice A i c))) : w3.cell? ⟨w.heap.size + 1, 1, none⟩ = some (.slice A i c) ∧ w3.frozen? ⟨w.heap.size + 1, 1, none⟩ = false :=
  have e := row_left h.out hl (h.ne (by omega))
  ⟨row_cell e 1, row_cold e 1⟩
end

theorem pd_after {g : Nat → Bool} {s V : ByteArray} {w wr w4 : World} {i c : Nat} {A : Option Addr} {U : List Value} (h : PdI g s w i A c wr) (hU : U = (ptdL g s i).map Value.string) (hb : Below wr.drew.heap.size wr.drew w4) :
    Hid (Owns (w4.alloc (.cells #[.string V] 9)) (w.heap.size + 2) 1 (.slice A i c) i U) ∧ Hid (w.heap.size + 2 ≤ (w4.alloc (.cells #[.string V] 9)).heap.size) ∧ Hid ((w4.alloc (.cells #[.string V] 9)).heap[w4.heap.size]? = some (.cells #[.string V] 9)) ∧
      w4.cell? ⟨w.heap.size + 1, 1, none⟩ = some (.slice A i c) ∧ (w4.alloc (.cells #[.string V] 9)).cell? ⟨w.heap.size + 1, 1, none⟩ = some (.slice A i c) ∧ Hid (PdI g s w i A c (w4.alloc (.cells #[.string V] 9))) := by
  have h3 := (h.go ((Below.refl _ _).drew)).go hb
  have h4 := h3.go ((Below.refl _ _).alloc (Nat.le_refl _) (.cells #[.string V] 9))
  exact ⟨by rw [hU]; exact h4.own, h4.size, heap_alloc_new w4 _, row_cell h3.out 1, row_cell h4.out 1, h4⟩
end Go.Proofs.Ytfhgglghofhndaa
