/- The law PointWrites, walked: it returns true for all arguments. -/
import Derived.Test.YteppengbjpdaiaaPointW
namespace Go.Proofs.Yteppengbjpdaiaa.lPointWrites
open Go.RowKit

set_option maxRecDepth 20000 in
set_option maxHeartbeats 400000 in
theorem walk (t z : Int) (A : Option Addr) (n c : Nat) (xs : List PlaceD) (A' : Option Addr) (n' c' : Nat) (gs : List Int) (w : World) (_w0 : (Lit.int .i64 t).wf = true) (_w1 : (Lit.int .i64 z).wf = true) (r : RowsIn w w.heap.size A n c PlaceD.cells 2 xs) (_o0 : ∀ z ∈ xs, PlaceD.ok z) (_s0 : c * 16 ≤ 140737488351232) (r' : RowsIn w w.heap.size A' n' c' (fun z => [.int .i64 z]) 1 gs) (_o1 : ∀ z ∈ gs, (fun z => (Lit.int .i64 z).wf = true) z) (_s1 : c' * 8 ≤ 140737488351232) :
    Calls Try.prog 8 #[.int .i64 t, .agg #[.int .i64 z, .slice A n c, .slice A' n' c']] w fun e w' => e = .returned (.bool true) ∧ Below w.heap.size w w' := by
  clear _w0 _w1 _o0 _s0 _o1 _s1
  have H1 : Hid (∀ W, Below w.heap.size w W → Calls Try.prog 29 #[.int .i64 t, .agg #[.int .i64 z, .slice A n c, .slice A' n' c']] W fun e w' => e = .returned (.tuple #[.string (strOfNums (pntS t z xs gs)), .int .i64 (pntE t z xs gs)]) ∧ Below W.heap.size W w') := fun W h => pntw_any t z A n c xs A' n' c' gs W ((r.below h).more h.size) ((r'.below h).more h.size)
  have H2 : Hid (∀ W, Below w.heap.size w W → Calls Try.prog 30 #[.int .i64 t, .agg #[.int .i64 z, .slice A n c, .slice A' n' c']] W fun e w' => e = .returned (.tuple #[.string (strOfNums (pntS t z xs gs)), .int .i64 (pntE t z xs gs)]) ∧ Below W.heap.size W w') := fun W h => pntr_any t z A n c xs A' n' c' gs W ((r.below h).more h.size) ((r'.below h).more h.size)
  clear r r'
  generalize pntE t z xs gs = ee at *
  generalize strOfNums (pntS t z xs gs) = ss at *
  obtain ⟨p0, p1, p2⟩ := box3 w (.int .i64 z) (.slice A n c) (.slice A' n' c') 47
  have hwb : Below w.heap.size w (w.alloc (.cells #[.int .i64 z, .slice A n c, .slice A' n' c'] 47)) := (Below.refl _ _).alloc (Nat.le_refl _) _
  have hws : w.heap.size < (w.alloc (.cells #[.int .i64 z, .slice A n c, .slice A' n' c'] 47)).heap.size := by simp
  obtain ⟨wa, hwa⟩ : ∃ wa, wa = w.alloc (.cells #[.int .i64 z, .slice A n c, .slice A' n' c'] 47) := ⟨_, rfl⟩
  rw [← hwa] at p0 p1 p2 hwb hws
  go_enter Try.func8, Try.ntmps8
  go_wp2_with (first
    | (go_at_call 29; rw [← hwa]; refine (H1.out _ hwb).mono ?_; rintro e w1 ⟨rfl, hb1⟩; have q0 := (hb1.cell (p := ⟨w.heap.size, 0, none⟩) hws).trans p0; have q1 := (hb1.cell (p := ⟨w.heap.size, 1, none⟩) hws).trans p1; have q2 := (hb1.cell (p := ⟨w.heap.size, 2, none⟩) hws).trans p2; have hb2 := hwb.trans (hb1.mono (Nat.le_of_lt hws)))
    | (go_at_call 30; refine (H2.out _ hb2).mono ?_; rintro e w2 ⟨rfl, hb3⟩))
  go_ret
  exact ⟨rfl, hb2.trans (hb3.mono hb2.size)⟩
end Go.Proofs.Yteppengbjpdaiaa.lPointWrites
