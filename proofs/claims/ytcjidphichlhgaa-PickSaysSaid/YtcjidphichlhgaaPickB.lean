/- The queue's methods, walked. -/
import Derived.Test.YtcjidphichlhgaaPickA
namespace Go.Proofs.Ytcjidphichlhgaa
open Go.RowKit Pk

theorem ret_b1 {a b : Bool} (h : a = b) : Ending.returned (.bool a) = .returned (.bool b) := by rw [h]
theorem len_any (A : Option Addr) (n c : Nat) (w : World) : Calls Try.prog 8 #[.slice A n c] w fun e w' => e = .returned (.int .i64 n) ∧ w = w' := by
  go_enter Try.func8, Try.ntmps8
  go_wp2
  go_ret
  exact ⟨rfl, rfl⟩
/-- Two elements in boxes of their own. -/
structure OxB (wr : World) (x y : OneV) (p q : Nat) (wx : World) : Prop where
  x0 : wx.cell? ⟨p, 0, none⟩ = some (.int .i64 x.at_)
  x1 : wx.cell? ⟨p, 1, none⟩ = some (.int .i64 x.live)
  x2 : wx.cell? ⟨p, 2, none⟩ = some (.int .i64 x.age)
  y0 : wx.cell? ⟨q, 0, none⟩ = some (.int .i64 y.at_)
  y1 : wx.cell? ⟨q, 1, none⟩ = some (.int .i64 y.live)
  y2 : wx.cell? ⟨q, 2, none⟩ = some (.int .i64 y.age)
  below : Below wr.heap.size wr wx
def OxI (wr : World) (x y : OneV) (s5 s6 : Value) (wx : World) : Prop := ∃ p q, s5 = .pointer (some ⟨p, 0, none⟩) ∧ s6 = .pointer (some ⟨q, 0, none⟩) ∧ OxB wr x y p q wx
theorem box33 (w : World) (r s : Array Value) (t : TypeId) : (∀ j, ((w.alloc (.cells r t)).alloc (.cells s t)).drew.cell? ⟨w.heap.size, j, none⟩ = r[j]?) ∧ ∀ j, ((w.alloc (.cells r t)).alloc (.cells s t)).drew.cell? ⟨w.heap.size + 1, j, none⟩ = s[j]? := by
  have h2 : ((w.alloc (.cells r t)).alloc (.cells s t)).drew.heap[w.heap.size + 1]? = some (.cells s t) := by
    have := heap_alloc_new (w.alloc (.cells r t)) (.cells s t)
    rw [World.size_alloc] at this; exact this
  have h1 : ((w.alloc (.cells r t)).alloc (.cells s t)).drew.heap[w.heap.size]? = some (.cells r t) :=
    (Below.heap_alloc (w.alloc (.cells r t)) (.cells s t) w.heap.size (by simp)).trans (heap_alloc_new w _)
  exact ⟨fun j => cell_of_row _ _ _ _ _ _ h1, fun j => cell_of_row _ _ _ _ _ _ h2⟩
theorem OxI.one {wr : World} {x y : OneV} {t : TypeId} : OxI wr x y (.pointer (some ⟨wr.heap.size, 0, none⟩)) (.pointer (some ⟨wr.heap.size + 1, 0, none⟩)) ((wr.alloc (.cells #[.int .i64 x.at_, .int .i64 x.live, .int .i64 x.age] t)).alloc (.cells #[.int .i64 y.at_, .int .i64 y.live, .int .i64 y.age] t)).drew := by
  obtain ⟨a, b⟩ := box33 wr #[.int .i64 x.at_, .int .i64 x.live, .int .i64 x.age] #[.int .i64 y.at_, .int .i64 y.live, .int .i64 y.age] t
  exact ⟨_, _, rfl, rfl, a 0, a 1, a 2, b 0, b 1, b 2, (((Below.refl _ _).alloc (Nat.le_refl _) _).alloc (by simp) _).drew⟩
theorem OxI.two {wr : World} {x y : OneV} {t : TypeId} : OxI wr x y (.pointer (some ⟨wr.heap.size + 1, 0, none⟩)) (.pointer (some ⟨wr.heap.size, 0, none⟩)) ((wr.alloc (.cells #[.int .i64 y.at_, .int .i64 y.live, .int .i64 y.age] t)).alloc (.cells #[.int .i64 x.at_, .int .i64 x.live, .int .i64 x.age] t)).drew := by
  obtain ⟨a, b⟩ := box33 wr #[.int .i64 y.at_, .int .i64 y.live, .int .i64 y.age] #[.int .i64 x.at_, .int .i64 x.live, .int .i64 x.age] t
  exact ⟨_, _, rfl, rfl, b 0, b 1, b 2, a 0, a 1, a 2, (((Below.refl _ _).alloc (Nat.le_refl _) _).alloc (by simp) _).drew⟩
theorem gain_bd {x y : OneV} (hx : OneOk x) (hy : OneOk y) : 0 ≤ (1000 - x.live) * (x.age + 1) ∧ (1000 - x.live) * (x.age + 1) ≤ 2147483648000 ∧ 0 ≤ gain x y ∧ gain x y ≤ 4294967296000000 := by
  have h1 := hx.l0; have h2 := hx.l1; have h3 := hx.a0; have h4 := hx.a1; have h5 := hy.l0; have h6 := hy.l1
  have p1 : 0 ≤ (1000 - x.live) * (x.age + 1) := Int.mul_nonneg (by omega) (by omega)
  have p2 : (1000 - x.live) * (x.age + 1) ≤ 1000 * 2147483648 := Int.mul_le_mul (by omega) (by omega) (by omega) (by omega)
  refine ⟨p1, p2, Int.mul_nonneg p1 (by omega), ?_⟩
  have : (1000 - x.live) * (x.age + 1) * (1000 + y.live) ≤ 1000 * 2147483648 * 2000 := Int.mul_le_mul p2 (by omega) (by omega) (by omega)
  exact this
set_option maxRecDepth 20000 in
set_option maxHeartbeats 400000 in
theorem less_any (w0 : World) (Q b o c N n i j : Nat) (l : List OneV) (x y : OneV) (w : World) (h : QSt w0 Q b o c N n l w) (hi : i < n) (hj : j < n) (ex : l[i]? = some x) (ey : l[j]? = some y) (hx : OneOk x) (hy : OneOk y) :
    Calls Try.prog 33 #[.slice (some ⟨b, o, none⟩) n c, .int .i64 i, .int .i64 j] w fun e w' => e = .returned (.bool (bet x y)) ∧ Below w.heap.size w w' := by
  have cx0 := h.c0 i x ex
  have cx1 := h.c1 i x ex
  have cx2 := h.c2 i x ex
  have cy0 := h.c0 j y ey
  have cy1 := h.c1 j y ey
  have cy2 := h.c2 j y ey
  have hbl : b < w.heap.size := Nat.lt_of_lt_of_le h.ltb h.gr.size
  have i1 : (0 : Int) ≤ (i : Int) := by omega
  have i2 : (i : Int) < (n : Int) := by omega
  have j1 : (0 : Int) ≤ (j : Int) := by omega
  have j2 : (j : Int) < (n : Int) := by omega
  obtain ⟨g1, g2, g3, g4⟩ := gain_bd hx hy
  obtain ⟨g5, g6, g7, g8⟩ := gain_bd hy hx
  have hbt : bet x y = (decide (gain y x < gain x y) || (decide (gain x y = gain y x) && decide (x.at_ < y.at_))) := rfl
  obtain ⟨P1, hP1⟩ : ∃ P1, (1000 - x.live) * (x.age + 1) = P1 := ⟨_, rfl⟩
  obtain ⟨P2, hP2⟩ : ∃ P2, (1000 - y.live) * (y.age + 1) = P2 := ⟨_, rfl⟩
  unfold gain at g3 g4 g7 g8 hbt
  rw [hP1] at g1 g2 g3 g4 hbt
  rw [hP2] at g5 g6 g7 g8 hbt
  obtain ⟨G1, hG1⟩ : ∃ G1, P1 * (1000 + y.live) = G1 := ⟨_, rfl⟩
  obtain ⟨G2, hG2⟩ : ∃ G2, P2 * (1000 + x.live) = G2 := ⟨_, rfl⟩
  rw [hG1] at g3 g4
  rw [hG2] at g7 g8
  rw [hG1, hG2] at hbt
  have HBT := Lib.hid hbt
  have x1 := hx.l0; have x2 := hx.l1; have x3 := hx.a0; have x4 := hx.a1
  have y1 := hy.l0; have y2 := hy.l1; have y3 := hy.a0; have y4 := hy.a1
  clear h ex ey hx hy hbt
  go_enter Try.func33, Try.ntmps33
  go_wp2
  go_cut [7, 8] (fun s7 s8 wx => OxI w x y s7 s8 wx)
  case first =>
    go_region
    all_goals
      go_wp2
      go_meet
      case rel => first | exact OxI.one | exact OxI.two
  case rest =>
    obtain ⟨p, q, rfl, rfl, hx⟩ := hcut
    obtain ⟨w2, rfl⟩ : ∃ z : World, z = wc := ⟨_, rfl⟩
    have d0 := hx.x0; have d1 := hx.x1; have d2 := hx.x2; have d3 := hx.y0; have d4 := hx.y1; have d5 := hx.y2
    have HB := Lib.hid hx.below
    clear hx
    go_wp2
    all_goals
      go_ret
      refine ⟨?_, HB.out⟩
      rw [HBT.out]
      clear HBT hP1 hP2 hG1 hG2
      refine ret_b1 ?_
      rcases Int.lt_trichotomy G1 G2 with hg | hg | hg
      · have q1 : ¬ G2 < G1 := by omega
        have q2 : ¬ G1 = G2 := by omega
        simp [q1, q2] <;> omega
      · simp [hg] <;> omega
      · have q2 : ¬ G1 = G2 := by omega
        simp [hg, q2] <;> omega
end Go.Proofs.Ytcjidphichlhgaa
