/- The law BlobWrites, walked: it returns true for all arguments. -/
import Derived.Test.YteppengbjpdaiaaBlobsW
namespace Go.Proofs.Yteppengbjpdaiaa.lBlobWrites
open Go.RowKit

set_option maxRecDepth 20000 in
set_option maxHeartbeats 1000000 in
theorem walk (A : Option Addr) (n c : Nat) (l : List BlobD) (last : Bool) (z : BlobD) (w : World) (r : RowsIn w w.heap.size A n c BlobD.cells 4 l) (_o0 : ∀ z ∈ l, BlobD.ok z) (_s0 : c * 40 ≤ 140737488351232) (_w2 : z.ok) :
    Calls Try.prog 5 #[.slice A n c, .bool last, .agg #[.int .i64 z.Kind, .int .i64 z.Ino, .int .i64 z.Nth, .string z.Text]] w fun e w' => e = .returned (.bool true) ∧ Below w.heap.size w w' := by
  clear _o0 _s0 _w2
  obtain ⟨k, i, m, t⟩ := z
  show Calls Try.prog 5 #[.slice A n c, .bool last, .agg #[.int .i64 k, .int .i64 i, .int .i64 m, .string t]] w fun e w' => e = .returned (.bool true) ∧ Below w.heap.size w w'
  obtain ⟨x, hx⟩ : ∃ x : Int, x = if last then 1 else 0 := ⟨_, rfl⟩
  have H1 : Hid (∀ W, Below w.heap.size w W → Calls Try.prog 19 #[.slice A n c, .bool last] W fun e w' => e = .returned (.tuple #[.string (strOfNums (blsS l x)), .int .i64 (blsE l)]) ∧ Below W.heap.size W w') := fun W h => by
    have r1 := (r.below h).more h.size
    cases last
    · rw [hx]; exact bwr_false A n c l W r1
    · rw [hx]; exact bwr_true A n c l W r1
  have H2 : Hid (∀ W, Below w.heap.size w W → Calls Try.prog 20 #[.slice A n c, .bool last] W fun e w' => e = .returned (.tuple #[.string (strOfNums (blsS l x)), .int .i64 (blsE l)]) ∧ Below W.heap.size W w') := fun W h => by
    have r1 := (r.below h).more h.size
    cases last
    · rw [hx]; exact bwrr_false A n c l W r1
    · rw [hx]; exact bwrr_true A n c l W r1
  have H3 : Hid (∀ W, Calls Try.prog 21 #[.agg #[.int .i64 k, .int .i64 i, .int .i64 m, .string t]] W fun e w' => e = .returned (.int .i64 (blbE k i m t)) ∧ Below W.heap.size W w') := fun W => bchk_any k i m t W
  have H4 : Hid (∀ W, Calls Try.prog 22 #[.agg #[.int .i64 k, .int .i64 i, .int .i64 m, .string t]] W fun e w' => e = .returned (.int .i64 (blbE k i m t)) ∧ Below W.heap.size W w') := fun W => blbr_any k i m t W
  clear r hx
  generalize blsE l = ee at *
  generalize strOfNums (blsS l x) = ss at *
  generalize blbE k i m t = be at *
  obtain ⟨p0, p1, p2, p3⟩ := bbox4 w (.int .i64 k) (.int .i64 i) (.int .i64 m) (.string t) 31
  have hwb : Below w.heap.size w (w.alloc (.cells #[.int .i64 k, .int .i64 i, .int .i64 m, .string t] 31)) := (Below.refl _ _).alloc (Nat.le_refl _) _
  have hws : w.heap.size < (w.alloc (.cells #[.int .i64 k, .int .i64 i, .int .i64 m, .string t] 31)).heap.size := by simp
  obtain ⟨wa, hwa⟩ : ∃ wa, wa = w.alloc (.cells #[.int .i64 k, .int .i64 i, .int .i64 m, .string t] 31) := ⟨_, rfl⟩
  rw [← hwa] at p0 p1 p2 p3 hwb hws
  have HS : wa.cell? ⟨w.heap.size, 0, none⟩ = some (.int .i64 k) ∧ wa.cell? ⟨w.heap.size, 1, none⟩ = some (.int .i64 i) ∧ wa.cell? ⟨w.heap.size, 2, none⟩ = some (.int .i64 m) ∧ wa.cell? ⟨w.heap.size, 3, none⟩ = some (.string t) ∧ w.heap.size + 1 ≤ wa.heap.size ∧ Below w.heap.size w wa := ⟨p0, p1, p2, p3, hws, hwb⟩
  have b0 : w.heap.size < w.heap.size + 1 := by omega
  clear p0 p1 p2 p3 hws
  go_enter Try.func5, Try.ntmps5
  go_wp2_with (first
    | (go_at_call 19; rw [← hwa]; refine (H1.out _ hwb).mono ?_; rintro e w1 ⟨rfl, hb1⟩; have HS1 := keepc4b b0 b0 b0 b0 HS hb1)
    | (go_at_call 20; refine (H2.out _ (keepc4w HS1)).mono ?_; rintro e w2 ⟨rfl, hb2⟩; have HS2 := keepc4b b0 b0 b0 b0 HS1 hb2))
  clear HS hwb hwa hb1 hb2 HS1 H1 H2
  go_region_held3 (fun W => W.cell? ⟨w.heap.size, 0, none⟩ = some (.int .i64 k) ∧ W.cell? ⟨w.heap.size, 1, none⟩ = some (.int .i64 i) ∧ W.cell? ⟨w.heap.size, 2, none⟩ = some (.int .i64 m) ∧ W.cell? ⟨w.heap.size, 3, none⟩ = some (.string t) ∧ w.heap.size + 1 ≤ W.heap.size ∧ Below w.heap.size w W)
    (first | assumption | exact keepc4d (by assumption) | exact keepc4b b0 b0 b0 b0 (by assumption) (by assumption))
    (first
    | (go_at_call 21; refine (H3.out _).mono ?_; rintro e w' ⟨rfl, hb⟩)
    | (go_at_call 22; refine (H4.out _).mono ?_; rintro e w' ⟨rfl, hb⟩))
  all_goals
    rename_i hHeld
    have hfin := keepc4w hHeld
    clear hHeld HS2
    go_wp2
    go_ret
    exact ⟨rfl, hfin⟩
end Go.Proofs.Yteppengbjpdaiaa.lBlobWrites
