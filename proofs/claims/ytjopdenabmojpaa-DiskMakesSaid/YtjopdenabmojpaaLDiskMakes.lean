/- The law DiskMakes, walked: it returns true for all arguments. -/
import Derived.Test.YtjopdenabmojpaaMakeW
import Derived.Test.YtjopdenabmojpaaHeld
import Derived.Deep.RegionHeld3
namespace Go.Proofs.Ytjopdenabmojpaa.lDiskMakes
open Go.RowKit

theorem wf_bd {n : Int} (h : (Lit.int .i64 n).wf = true) : -9223372036854775808 ≤ n ∧ n ≤ 9223372036854775807 := by
  simpa [Lit.wf, IntKind.min, IntKind.max, IntKind.signed, IntKind.bits] using h

set_option maxRecDepth 20000 in
set_option maxHeartbeats 1000000 in
theorem walk (a : Int) (A : Option Addr) (n c : Nat) (cs : List ByteArray) (A' : Option Addr) (n' c' : Nat) (ws : List PutD) (w : World) (_w0 : (Lit.int .i64 a).wf = true) (r : RowsIn w w.heap.size A n c (fun z => [.string z]) 1 cs) (_o0 : ∀ z ∈ cs, (fun z => z.size ≤ maxLen) z) (_s0 : c * 16 ≤ 140737488351232) (r' : RowsIn w w.heap.size A' n' c' PutD.cells 2 ws) (_o1 : ∀ z ∈ ws, PutD.ok z) (_s1 : c' * 24 ≤ 140737488351232) :
    Calls Try.prog 4 #[.int .i64 a, .agg #[.slice A n c, .slice A' n' c']] w fun e w' => e = .returned (.bool true) ∧ Below w.heap.size w w' := by
  clear _w0 _o0 _s0 _o1 _s1
  have H1 : Hid (∀ W, Below w.heap.size w W → Calls Try.prog 20 #[.agg #[.slice A n c, .slice A' n' c']] W fun e w' => e = .returned (.int .i64 (dskE cs ws)) ∧ Below W.heap.size W w') := fun W h => dchk_any A n c cs A' n' c' ws W ((r.below h).more h.size) ((r'.below h).more h.size)
  have H2 : Hid (∀ W, Below w.heap.size w W → Calls Try.prog 21 #[.agg #[.slice A n c, .slice A' n' c']] W fun e w' => e = .returned (.int .i64 (dskE cs ws)) ∧ Below W.heap.size W w') := fun W h => dskr_any A n c cs A' n' c' ws W ((r.below h).more h.size) ((r'.below h).more h.size)
  generalize dskE cs ws = ee at *
  clear r r'
  obtain ⟨p0, p1⟩ := dbox2 w (.slice A n c) (.slice A' n' c') 32
  have hwb : Below w.heap.size w (w.alloc (.cells #[.slice A n c, .slice A' n' c'] 32)) := (Below.refl _ _).alloc (Nat.le_refl _) _
  have hws : w.heap.size < (w.alloc (.cells #[.slice A n c, .slice A' n' c'] 32)).heap.size := by simp
  obtain ⟨wa, hwa⟩ : ∃ wa, wa = w.alloc (.cells #[.slice A n c, .slice A' n' c'] 32) := ⟨_, rfl⟩
  rw [← hwa] at p0 p1 hwb hws
  by_cases hb : a < 1 ∨ 128 < a
  · have HM : Hid (∀ W, Calls Try.prog 17 #[.int .i64 a] W fun e w' => e = .returned (.tuple #[.agg zeroDisk, .int .i64 1]) ∧ Below W.heap.size W w') := fun W => make_no a W hb
    rcases (show a < 1 ∨ (1 ≤ a ∧ 128 < a) by omega) with h1 | ⟨h1, h2⟩ <;> clear hb
    all_goals
      go_enter Try.func4, Try.ntmps4
      go_wp2_with (go_at_call 17; rw [← hwa]; refine (HM.out _).mono ?_; rintro e w1 ⟨rfl, hb1⟩)
      obtain ⟨q0, q1⟩ := dbox2 w1 (.slice none 0 0) (.slice none 0 0) 32
      have hz1 := hb1.size
      have HS : (w1.alloc (.cells zeroDisk 32)).cell? ⟨w1.heap.size, 0, none⟩ = some (.slice none 0 0) ∧ (w1.alloc (.cells zeroDisk 32)).cell? ⟨w1.heap.size, 1, none⟩ = some (.slice none 0 0) ∧ (w1.alloc (.cells zeroDisk 32)).cell? ⟨w.heap.size, 0, none⟩ = some (.slice A n c) ∧ (w1.alloc (.cells zeroDisk 32)).cell? ⟨w.heap.size, 1, none⟩ = some (.slice A' n' c') ∧ w1.heap.size + 1 ≤ (w1.alloc (.cells zeroDisk 32)).heap.size ∧ Below w.heap.size w (w1.alloc (.cells zeroDisk 32)) :=
        ⟨q0, q1, (World.cell?_alloc_lt _ _ _ (by show w.heap.size < w1.heap.size; omega)).trans ((hb1.cell (p := ⟨w.heap.size, 0, none⟩) hws).trans p0), (World.cell?_alloc_lt _ _ _ (by show w.heap.size < w1.heap.size; omega)).trans ((hb1.cell (p := ⟨w.heap.size, 1, none⟩) hws).trans p1), by simp, (hwb.trans (hb1.mono (Nat.le_of_lt hws))).alloc (by omega) _⟩
      have b0 : w1.heap.size < w1.heap.size + 1 := by omega
      have b1 : w.heap.size < w1.heap.size + 1 := by omega
      clear q0 q1 hwa hwb hws p0 p1 hb1 hz1
      generalize w1.alloc (.cells zeroDisk 32) = w2 at *
      go_region_held3 (fun W => W.cell? ⟨w1.heap.size, 0, none⟩ = some (.slice none 0 0) ∧ W.cell? ⟨w1.heap.size, 1, none⟩ = some (.slice none 0 0) ∧ W.cell? ⟨w.heap.size, 0, none⟩ = some (.slice A n c) ∧ W.cell? ⟨w.heap.size, 1, none⟩ = some (.slice A' n' c') ∧ w1.heap.size + 1 ≤ W.heap.size ∧ Below w.heap.size w W)
        (first | assumption | exact keepc4d (by assumption) | exact keepc4b b0 b0 b1 b1 (by assumption) (by assumption))
        (first
        | (go_at_call 20; refine (H1.out _ ?_).mono ?_; (exact keepc4w (by assumption)); rintro e w' ⟨rfl, hb⟩)
        | (go_at_call 21; refine (H2.out _ ?_).mono ?_; (exact keepc4w (by assumption)); rintro e w' ⟨rfl, hb⟩))
      all_goals
        rename_i hHeld
        have hfin := keepc4w hHeld
        clear hHeld HS
        go_wp2
        go_ret
        exact ⟨rfl, hfin⟩
  · obtain ⟨N, rfl⟩ := Int.eq_ofNat_of_zero_le (show 0 ≤ a by omega)
    have n1 : 1 ≤ N := by omega
    have n2 : N ≤ 128 := by omega
    have i1 : (1 : Int) ≤ (N : Int) := by omega
    have i2 : (N : Int) ≤ 128 := by omega
    have HM : Hid (∀ W, Calls Try.prog 17 #[.int .i64 (N : Int)] W fun e w' => ∃ b, e = .returned (.tuple #[.agg #[.slice (some ⟨b, 0, none⟩) N N, .slice none 0 0], .int .i64 0]) ∧ w'.heap[b]? = some (.cells (empRow N) 9) ∧ Below W.heap.size W w') := fun W => make_yes N W n1 n2
    have HC : Hid (∀ (b : Nat) (W : World), W.heap[b]? = some (.cells (empRow N) 9) → Calls Try.prog 18 #[.slice (some ⟨b, 0, none⟩) N N, .func (.func 19) #[] #[]] W fun e w' => e = .returned (.bool false) ∧ W = w') := fun b W h => contf_any b N W n2 h
    clear hb
    go_enter Try.func4, Try.ntmps4
    go_wp2_with (first
      | (go_at_call 17; rw [← hwa]; refine (HM.out _).mono ?_; rintro e w1 ⟨b, rfl, hrow, hb1⟩; have hrow := Lib.hid hrow)
      | (go_at_call 18; refine (HC.out _ _ (row_alloc hrow.out _)).mono ?_; rintro e w' ⟨rfl, rfl⟩))
    obtain ⟨q0, q1⟩ := dbox2 w1 (.slice (some ⟨b, 0, none⟩) N N) (.slice none 0 0) 32
    have hz1 := hb1.size
    have HS : (w1.alloc (.cells #[.slice (some ⟨b, 0, none⟩) N N, .slice none 0 0] 32)).cell? ⟨w1.heap.size, 0, none⟩ = some (.slice (some ⟨b, 0, none⟩) N N) ∧ (w1.alloc (.cells #[.slice (some ⟨b, 0, none⟩) N N, .slice none 0 0] 32)).cell? ⟨w1.heap.size, 1, none⟩ = some (.slice none 0 0) ∧ (w1.alloc (.cells #[.slice (some ⟨b, 0, none⟩) N N, .slice none 0 0] 32)).cell? ⟨w.heap.size, 0, none⟩ = some (.slice A n c) ∧ (w1.alloc (.cells #[.slice (some ⟨b, 0, none⟩) N N, .slice none 0 0] 32)).cell? ⟨w.heap.size, 1, none⟩ = some (.slice A' n' c') ∧ w1.heap.size + 1 ≤ (w1.alloc (.cells #[.slice (some ⟨b, 0, none⟩) N N, .slice none 0 0] 32)).heap.size ∧ Below w.heap.size w (w1.alloc (.cells #[.slice (some ⟨b, 0, none⟩) N N, .slice none 0 0] 32)) :=
      ⟨q0, q1, (World.cell?_alloc_lt _ _ _ (by show w.heap.size < w1.heap.size; omega)).trans ((hb1.cell (p := ⟨w.heap.size, 0, none⟩) hws).trans p0), (World.cell?_alloc_lt _ _ _ (by show w.heap.size < w1.heap.size; omega)).trans ((hb1.cell (p := ⟨w.heap.size, 1, none⟩) hws).trans p1), by simp, (hwb.trans (hb1.mono (Nat.le_of_lt hws))).alloc (by omega) _⟩
    have b0 : w1.heap.size < w1.heap.size + 1 := by omega
    have b1 : w.heap.size < w1.heap.size + 1 := by omega
    clear q0 q1 hwa hwb hws p0 p1 hb1 hz1
    generalize w1.alloc (.cells #[.slice (some ⟨b, 0, none⟩) N N, .slice none 0 0] 32) = w2 at *
    go_region_held3 (fun W => W.cell? ⟨w1.heap.size, 0, none⟩ = some (.slice (some ⟨b, 0, none⟩) N N) ∧ W.cell? ⟨w1.heap.size, 1, none⟩ = some (.slice none 0 0) ∧ W.cell? ⟨w.heap.size, 0, none⟩ = some (.slice A n c) ∧ W.cell? ⟨w.heap.size, 1, none⟩ = some (.slice A' n' c') ∧ w1.heap.size + 1 ≤ W.heap.size ∧ Below w.heap.size w W)
      (first | assumption | exact keepc4d (by assumption) | exact keepc4b b0 b0 b1 b1 (by assumption) (by assumption))
      (first
      | (go_at_call 20; refine (H1.out _ ?_).mono ?_; (exact keepc4w (by assumption)); rintro e w' ⟨rfl, hb⟩)
      | (go_at_call 21; refine (H2.out _ ?_).mono ?_; (exact keepc4w (by assumption)); rintro e w' ⟨rfl, hb⟩))
    all_goals
      rename_i hHeld
      have hfin := keepc4w hHeld
      clear hHeld HS
      go_wp2
      go_ret
      exact ⟨rfl, hfin⟩
end Go.Proofs.Ytjopdenabmojpaa.lDiskMakes
