/- linenref.FileWrite, walked. -/
import Derived.Test.YtfhgglghofhndaaFwrW
import Derived.Test.YtfhgglghofhndaaFptdW
import Derived.Test.YtfhgglghofhndaaFreadW
namespace Go.Proofs.Ytfhgglghofhndaa
open Go.RowKit Go.PlainAid

theorem cut_self {k : Nat} {ps : List ByteArray} (h : PartsOk k ps) : cutL ps k = ps := by
  apply List.ext_getElem?
  intro i
  by_cases hi : i < npt k
  · rw [cutL_get hi]
    have hi2 : i < ps.length := by rw [h.1]; exact hi
    obtain ⟨p, e⟩ : ∃ p, ps[i]? = some p := ⟨_, List.getElem?_eq_getElem hi2⟩
    rw [e]
    unfold cutAt cutPt
    rw [e]
    simp only
    by_cases hp : p.size = 0
    · rw [if_pos hp, size_zero hp]
    · rw [if_neg hp]
      have hw := (h.2 i p e).resolve_left hp
      rw [List.take_of_length_le (by rw [bl_len]; omega), show wid k i - p.size = 0 by omega]
      simp [zer, mk_bl]
  · rw [List.getElem?_eq_none (by rw [cutL_len]; omega), List.getElem?_eq_none (by rw [h.1]; omega)]
noncomputable def fwE (sz a : Int) (t : ByteArray) (ps : List ByteArray) : Int := if datE sz ps ≠ 0 then datE sz ps else if a < 0 then 1 else if t.size = 0 then 0 else if 4096 < (t.size : Int) ∨ 4096 - (t.size : Int) < a then 2 else 0
noncomputable def fwZ (sz a : Int) (t : ByteArray) (ps : List ByteArray) : Int := if fwE sz a t ps = 0 then (if t.size = 0 then sz else ((max sz.toNat (a.toNat + t.size) : Nat) : Int)) else 0
noncomputable def fwL (sz a : Int) (t : ByteArray) (ps : List ByteArray) : List ByteArray := if fwE sz a t ps = 0 then (if t.size = 0 then ps else wrL ps (ovl (szd (whB sz.toNat 0 ps) (max sz.toNat (a.toNat + t.size))) a.toNat (bl t)) (max sz.toNat (a.toNat + t.size)) a.toNat t.size) else []
def FwPost (sz a : Int) (t : ByteArray) (ps : List ByteArray) (w : World) (e : Ending) (w' : World) : Prop :=
  ∃ D q d, e = .returned (.tuple #[.agg #[.int .i64 (fwZ sz a t ps), .slice D q d], .int .i64 (fwE sz a t ps)]) ∧ RowsIn w' w'.heap.size D q d (fun z => [.string z]) 1 (fwL sz a t ps) ∧ Below w.heap.size w w'
section
variable {sz a : Int} {t : ByteArray} {ps : List ByteArray} {w w' : World} {D : Option Addr} {q d : Nat}
theorem fwPost_bad {E : Int} (h : fwE sz a t ps = E) (h0 : E ≠ 0) (hb : Below w.heap.size w w') : FwPost sz a t ps w (.returned (.tuple #[.agg zeroDaZ, .int .i64 E])) w' := by
  have h1 : fwZ sz a t ps = 0 := by unfold fwZ; rw [if_neg (by rw [h]; exact h0)]
  have h2 : fwL sz a t ps = [] := by unfold fwL; rw [if_neg (by rw [h]; exact h0)]
  exact ⟨none, 0, 0, by rw [h1, h], by rw [h2]; exact no_strs _ _, hb⟩
theorem fwPost_nil (h : fwE sz a t ps = 0) (ht : t.size = 0) (r : RowsIn w' w'.heap.size D q d (fun z => [.string z]) 1 ps) (hb : Below w.heap.size w w') : FwPost sz a t ps w (.returned (.tuple #[.agg #[.int .i64 sz, .slice D q d], .int .i64 0])) w' := by
  have h1 : fwZ sz a t ps = sz := by unfold fwZ; rw [if_pos h, if_pos ht]
  have h2 : fwL sz a t ps = ps := by unfold fwL; rw [if_pos h, if_pos ht]
  exact ⟨D, q, d, by rw [h1, h], by rw [h2]; exact r, hb⟩
theorem fwPost_ok {k a : Nat} {z : Nat} (h : fwE k a t ps = 0) (ht : t.size ≠ 0) (hz : z = max k (a + t.size)) (r : RowsIn w' w'.heap.size D q d (fun z => [.string z]) 1 (wrL ps (ovl (szd (whB k 0 ps) z) a (bl t)) z a t.size)) (hb : Below w.heap.size w w') : FwPost k a t ps w (.returned (.tuple #[.agg #[.int .i64 z, .slice D q d], .int .i64 0])) w' := by
  have h1 : fwZ k a t ps = z := by unfold fwZ; rw [if_pos h, if_neg ht, hz]; rfl
  have h2 : fwL k a t ps = wrL ps (ovl (szd (whB k 0 ps) z) a (bl t)) z a t.size := by unfold fwL; rw [if_pos h, if_neg ht, hz]; rfl
  exact ⟨D, q, d, by rw [h1, h], by rw [h2]; exact r, hb⟩
theorem fw_dat (h : datE sz ps ≠ 0) : fwE sz a t ps = datE sz ps := if_pos h
theorem fw_arg (h : datE sz ps = 0) (h2 : a < 0) : fwE sz a t ps = 1 := by unfold fwE; rw [if_neg (by rw [h]; decide), if_pos h2]
theorem fw_nil (h : datE sz ps = 0) (h2 : ¬ a < 0) (h3 : t.size = 0) : fwE sz a t ps = 0 := by unfold fwE; rw [if_neg (by rw [h]; decide), if_neg h2, if_pos h3]
theorem fw_large (h : datE sz ps = 0) (h2 : ¬ a < 0) (h3 : t.size ≠ 0) (h4 : 4096 < (t.size : Int) ∨ 4096 - (t.size : Int) < a) : fwE sz a t ps = 2 := by unfold fwE; rw [if_neg (by rw [h]; decide), if_neg h2, if_neg h3, if_pos h4]
theorem fw_ok (h : datE sz ps = 0) (h2 : ¬ a < 0) (h3 : t.size ≠ 0) (h4 : ¬ (4096 < (t.size : Int) ∨ 4096 - (t.size : Int) < a)) : fwE sz a t ps = 0 := by unfold fwE; rw [if_neg (by rw [h]; decide), if_neg h2, if_neg h3, if_neg h4]
end

/-- The boxes of the arguments and of the result. -/
structure FvI (w : World) (sz a : Int) (t : ByteArray) (A : Option Addr) (m c : Nat) (W : World) : Prop where
  box : W.heap[w.heap.size]? = some (.cells #[.int .i64 sz, .slice A m c] 24 (0, 0))
  ab : W.heap[w.heap.size + 1]? = some (.cells #[.int .i64 a] 3 (0, 0))
  tb : W.heap[w.heap.size + 2]? = some (.cells #[.string t] 9 (0, 0))
  res : W.heap[w.heap.size + 3]? = some (.cells zeroDaZ 24 (0, 0))
  below : Below w.heap.size w W
  size : w.heap.size + 4 ≤ W.heap.size
theorem fvI_new (w : World) (sz a : Int) (t : ByteArray) (A : Option Addr) (m c : Nat) : FvI w sz a t A m c ((((w.alloc (.cells #[.int .i64 sz, .slice A m c] 24)).alloc (.cells #[.int .i64 a] 3)).alloc (.cells #[.string t] 9)).alloc (.cells zeroDaZ 24)) := by
  have e1 : (w.alloc (.cells #[.int .i64 sz, .slice A m c] 24)).heap.size = w.heap.size + 1 := by simp
  have e2 : ((w.alloc (.cells #[.int .i64 sz, .slice A m c] 24)).alloc (.cells #[.int .i64 a] 3)).heap.size = w.heap.size + 2 := by simp
  have e3 : (((w.alloc (.cells #[.int .i64 sz, .slice A m c] 24)).alloc (.cells #[.int .i64 a] 3)).alloc (.cells #[.string t] 9)).heap.size = w.heap.size + 3 := by simp
  have r1 := heap_alloc_new (w.alloc (.cells #[.int .i64 sz, .slice A m c] 24)) (.cells #[.int .i64 a] 3)
  have r2 := heap_alloc_new ((w.alloc (.cells #[.int .i64 sz, .slice A m c] 24)).alloc (.cells #[.int .i64 a] 3)) (.cells #[.string t] 9)
  have r3 := heap_alloc_new (((w.alloc (.cells #[.int .i64 sz, .slice A m c] 24)).alloc (.cells #[.int .i64 a] 3)).alloc (.cells #[.string t] 9)) (.cells zeroDaZ 24)
  rw [e1] at r1; rw [e2] at r2; rw [e3] at r3
  exact { box := row_alloc (row_alloc (row_alloc (heap_alloc_new w _) _) _) _, ab := row_alloc (row_alloc r1 _) _, tb := row_alloc r2 _, res := r3, below := ((((Below.refl _ _).alloc (Nat.le_refl _) _).alloc (by simp) _).alloc (by simp; omega) _).alloc (by simp; omega) _, size := by simp }
theorem FvI.go {w W W' : World} {sz a : Int} {t : ByteArray} {A : Option Addr} {m c : Nat} (h : FvI w sz a t A m c W) (hb : Below W.heap.size W W') : FvI w sz a t A m c W' :=
  { box := row_below h.box (row_lt h.box) hb, ab := row_below h.ab (row_lt h.ab) hb, tb := row_below h.tb (row_lt h.tb) hb, res := row_below h.res (row_lt h.res) hb, below := h.below.trans (hb.mono h.below.size), size := Nat.le_trans h.size hb.size }
theorem FvI.cells {w W : World} {sz a : Int} {t : ByteArray} {A : Option Addr} {m c : Nat} (h : FvI w sz a t A m c W) : W.cell? ⟨w.heap.size, 0, none⟩ = some (.int .i64 sz) ∧ W.cell? ⟨w.heap.size, 1, none⟩ = some (.slice A m c) ∧ W.cell? ⟨w.heap.size + 1, 0, none⟩ = some (.int .i64 a) ∧ W.cell? ⟨w.heap.size + 2, 0, none⟩ = some (.string t) := ⟨row_cell h.box 0, row_cell h.box 1, row_cell h.ab 0, row_cell h.tb 0⟩
theorem FvI.res4 {w W : World} {sz a : Int} {t : ByteArray} {A : Option Addr} {m c : Nat} (h : FvI w sz a t A m c W) : W.cell? ⟨w.heap.size + 3, 0, none⟩ = some (.int .i64 0) ∧ W.cell? ⟨w.heap.size + 3, 1, none⟩ = some (.slice none 0 0) ∧ W.frozen? ⟨w.heap.size + 3, 0, none⟩ = false ∧ W.frozen? ⟨w.heap.size + 3, 1, none⟩ = false := ⟨row_cell h.res 0, row_cell h.res 1, row_cold h.res 0, row_cold h.res 1⟩
theorem cf_wr : ∀ (args : Array Value) (W : World), (callFunc 59 args).run Try.prog W = .ok (.enter 59 args) W := fun args W => by kernel_rfl
end Go.Proofs.Ytfhgglghofhndaa
