/- How two coins are compared: the two closures, walked. -/
import Derived.Test.YtoncakcfibahaaaHsA
import Derived.Test.YtoncakcfibahaaaHeld
import Derived.IntWalk
namespace Go.Proofs.Ytoncakcfibahaaa
open Go.RowKit

theorem boxc (w : World) (v0 v1 : Value) (t : TypeId) : (w.alloc (.cells #[v0, v1] t)).cell? ⟨w.heap.size, 0, none⟩ = some v0 ∧ (w.alloc (.cells #[v0, v1] t)).cell? ⟨w.heap.size, 1, none⟩ = some v1 := by
  constructor <;> (unfold World.cell?; rw [heap_alloc_new w _]; rfl)
set_option maxRecDepth 20000 in
set_option maxHeartbeats 400000 in
theorem key_any (x : CoinV) (w : World) :
    Calls Try.prog 12 #[.agg #[.int .i64 x.worth, .slice x.A x.n x.c]] w fun e w' => e = .returned (.int .i64 x.worth) ∧ Below w.heap.size w w' := by
  have HB : Hid (Below w.heap.size w (w.alloc (.cells #[.int .i64 x.worth, .slice x.A x.n x.c] 34))) := (Below.refl _ _).alloc (Nat.le_refl _) _
  go_enter Try.func12, Try.ntmps12
  go_wp2
  go_ret
  exact ⟨rfl, HB.out⟩
set_option maxRecDepth 20000 in
set_option maxHeartbeats 400000 in
theorem cmp_any (x y : CoinV) (kb : Nat) (w : World) (hk : w.cell? ⟨kb, 0, none⟩ = some (.func (.func 12) #[] #[])) (hx : -1000000000000000 ≤ x.worth ∧ x.worth ≤ 1000000000000000) (hy : -1000000000000000 ≤ y.worth ∧ y.worth ≤ 1000000000000000) :
    Calls Try.prog 16 #[.agg #[.int .i64 x.worth, .slice x.A x.n x.c], .agg #[.int .i64 y.worth, .slice y.A y.n y.c], .pointer (some ⟨kb, 0, none⟩)] w fun e w' => e = .returned (.int .i64 (x.worth - y.worth)) ∧ Below w.heap.size w w' := by
  obtain ⟨x1, x2⟩ := hx
  obtain ⟨y1, y2⟩ := hy
  have hkl : kb < w.heap.size := by
    unfold World.cell? at hk
    rcases Nat.lt_or_ge kb w.heap.size with h | h
    · exact h
    · rw [Array.getElem?_eq_none h] at hk; simp at hk
  have hKey : ∀ (z : CoinV) (W : World), Calls Try.prog 12 #[.agg #[.int .i64 z.worth, .slice z.A z.n z.c]] W fun e w' => e = .returned (.int .i64 z.worth) ∧ Below W.heap.size W w' := key_any
  have KX := Lib.hid (fun W => hKey x W)
  have KY := Lib.hid (fun W => hKey y W)
  clear hKey
  have wr : IntKind.i64.wrap (x.worth - y.worth) = x.worth - y.worth := IntWalk.i64_in _ (by omega)
  obtain ⟨wa, hwa⟩ : ∃ wa, wa = (w.alloc (.cells #[.int .i64 x.worth, .slice x.A x.n x.c] 34)).alloc (.cells #[.int .i64 y.worth, .slice y.A y.n y.c] 34) := ⟨_, rfl⟩
  have HS : wa.cell? ⟨kb, 0, none⟩ = some (.func (.func 12) #[] #[]) ∧ wa.cell? ⟨w.heap.size, 0, none⟩ = some (.int .i64 x.worth) ∧ wa.cell? ⟨w.heap.size, 1, none⟩ = some (.slice x.A x.n x.c) ∧ wa.cell? ⟨w.heap.size + 1, 0, none⟩ = some (.int .i64 y.worth) ∧ wa.cell? ⟨w.heap.size + 1, 1, none⟩ = some (.slice y.A y.n y.c) ∧ w.heap.size + 2 ≤ wa.heap.size ∧ Below w.heap.size w wa := by
    obtain ⟨p0, p1⟩ := boxc w (.int .i64 x.worth) (.slice x.A x.n x.c) 34
    obtain ⟨q0, q1⟩ := boxc (w.alloc (.cells #[.int .i64 x.worth, .slice x.A x.n x.c] 34)) (.int .i64 y.worth) (.slice y.A y.n y.c) 34
    rw [World.size_alloc] at q0 q1
    rw [hwa]
    refine ⟨?_, ?_, ?_, q0, q1, by simp, ((Below.refl _ _).alloc (Nat.le_refl _) _).alloc (by simp) _⟩
    · rw [World.cell?_alloc_lt _ _ _ (by simp; omega), World.cell?_alloc_lt _ _ _ hkl]; exact hk
    · rw [World.cell?_alloc_lt _ _ _ (by simp)]; exact p0
    · rw [World.cell?_alloc_lt _ _ _ (by simp)]; exact p1
  have l0 : kb < w.heap.size + 2 := by omega
  have l1 : w.heap.size < w.heap.size + 2 := by omega
  have l2 : w.heap.size + 1 < w.heap.size + 2 := by omega
  clear hk
  go_enter Try.func16, Try.ntmps16
  go_wp2
  rw [← hwa]
  clear hwa
  go_region_held3 (fun W => W.cell? ⟨kb, 0, none⟩ = some (.func (.func 12) #[] #[]) ∧ W.cell? ⟨w.heap.size, 0, none⟩ = some (.int .i64 x.worth) ∧ W.cell? ⟨w.heap.size, 1, none⟩ = some (.slice x.A x.n x.c) ∧ W.cell? ⟨w.heap.size + 1, 0, none⟩ = some (.int .i64 y.worth) ∧ W.cell? ⟨w.heap.size + 1, 1, none⟩ = some (.slice y.A y.n y.c) ∧ w.heap.size + 2 ≤ W.heap.size ∧ Below w.heap.size w W)
    (first | assumption | exact keepc5d (by assumption) | exact keepc5b l0 l1 l1 l2 l2 (by assumption) (by assumption))
    (first
    | (go_at_call_of 12 (Value.agg #[.int .i64 x.worth, .slice x.A x.n x.c]); refine (KX.out _).mono ?_; rintro e w' ⟨rfl, hb⟩)
    | (go_at_call_of 12 (Value.agg #[.int .i64 y.worth, .slice y.A y.n y.c]); refine (KY.out _).mono ?_; rintro e w' ⟨rfl, hb⟩))
  all_goals
    rename_i hHeld
    have hfin := keepc5w hHeld
    clear hHeld HS KX KY
    go_wp2
    go_ret
    exact ⟨rfl, hfin⟩
end Go.Proofs.Ytoncakcfibahaaa
