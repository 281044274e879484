/- The queue's Swap and Pop, walked. -/
import Derived.Test.YtcjidphichlhgaaPickB
namespace Go.Proofs.Ytcjidphichlhgaa
open Go.RowKit Pk

theorem getD_of {l : List OneV} {i : Nat} {x : OneV} (h : l[i]? = some x) : l.getD i default = x := by rw [List.getD_eq_getElem?_getD, h]; rfl
set_option maxRecDepth 20000 in
set_option maxHeartbeats 400000 in
theorem swap_any (w0 : World) (Q b o c N n i j : Nat) (l : List OneV) (w : World) (h : QSt w0 Q b o c N n l w) (hi : i < n) (hj : j < n) :
    Calls Try.prog 34 #[.slice (some ⟨b, o, none⟩) n c, .int .i64 i, .int .i64 j] w fun e w' => e = .returned (.tuple #[]) ∧ QSt w0 Q b o c N n (swp l i j) w' := by
  have hnN := h.le
  have hil : i < l.length := by rw [h.len]; omega
  have hjl : j < l.length := by rw [h.len]; omega
  obtain ⟨x, ex⟩ : ∃ x, l[i]? = some x := ⟨_, List.getElem?_eq_getElem hil⟩
  obtain ⟨y, ey⟩ : ∃ y, l[j]? = some y := ⟨_, List.getElem?_eq_getElem hjl⟩
  have HR := Lib.hid (((h.set i y (by omega)).set j x (by omega)).drew)
  have he : swp l i j = (l.set i y).set j x := by unfold swp; rw [getD_of ex, getD_of ey]
  have HE := Lib.hid he
  have cx0 := h.c0 i x ex
  have cx1 := h.c1 i x ex
  have cx2 := h.c2 i x ex
  have cy0 := h.c0 j y ey
  have cy1 := h.c1 j y ey
  have cy2 := h.c2 j y ey
  have fx0 := h.f0 i (by omega)
  have fx1 := h.f1 i (by omega)
  have fx2 := h.f2 i (by omega)
  have fy0 := h.f0 j (by omega)
  have fy1 := h.f1 j (by omega)
  have fy2 := h.f2 j (by omega)
  have i1 : (0 : Int) ≤ (i : Int) := by omega
  have i2 : (i : Int) < (n : Int) := by omega
  have j1 : (0 : Int) ≤ (j : Int) := by omega
  have j2 : (j : Int) < (n : Int) := by omega
  unfold set3 at HR
  clear h ex ey he
  by_cases hij : i = j
  · subst hij
    obtain rfl : x = y := by
      have e0 : x.at_ = y.at_ := by rw [cx0] at cy0; simpa using cy0
      have e1 : x.live = y.live := by rw [cx1] at cy1; simpa using cy1
      have e2 : x.age = y.age := by rw [cx2] at cy2; simpa using cy2
      cases x; cases y; simp_all
    clear cy0 cy1 cy2 fy0 fy1 fy2
    go_enter Try.func34, Try.ntmps34
    go_wp2
    go_region
    go_wp2
    go_end0
    exact ⟨rfl, by rw [HE.out]; exact HR.out⟩
  · have hne : ¬ j = i := by omega
    go_enter Try.func34, Try.ntmps34
    go_wp2
    go_region
    go_wp2
    go_end0
    exact ⟨rfl, by rw [HE.out]; exact HR.out⟩
def PopPost (w0 : World) (Q b o c N n : Nat) (l : List OneV) (x : OneV) (e : Ending) (w' : World) : Prop := e = .returned (.iface 30 (.agg #[.int .i64 x.at_, .int .i64 x.live, .int .i64 x.age])) ∧ QSt w0 Q b o c N (n - 1) l w'
theorem QSt.popped {w0 w : World} {Q b o c N n : Nat} {l : List OneV} (h1 : QSt w0 Q b o c N n l w) (x : Obj) : QSt w0 Q b o c N (n - 1) l ((w.setCell ⟨Q, 0, none⟩ (.slice (some ⟨b, o, none⟩) (n - 1) c)).alloc x) := by
  have hot : ∀ j, (w.setCell ⟨Q, 0, none⟩ (.slice (some ⟨b, o, none⟩) (n - 1) c)).cell? ⟨b, j, none⟩ = w.cell? ⟨b, j, none⟩ := fun j => World.cell?_setCell_other _ _ _ _ (fun e => by injection e with e _ _; exact h1.ne e.symm)
  have h2 : QSt w0 Q b o c N (n - 1) l (w.setCell ⟨Q, 0, none⟩ (.slice (some ⟨b, o, none⟩) (n - 1) c)) := ⟨World.cell?_setCell_same' _ _ _ (by rw [h1.q]; rfl), by rw [World.frozen?_setCell]; exact h1.qf, h1.len, fun i x hx => by rw [hot]; exact h1.c0 i x hx, fun i x hx => by rw [hot]; exact h1.c1 i x hx, fun i x hx => by rw [hot]; exact h1.c2 i x hx,
    fun i hi => by rw [World.frozen?_setCell]; exact h1.f0 i hi, fun i hi => by rw [World.frozen?_setCell]; exact h1.f1 i hi, fun i hi => by rw [World.frozen?_setCell]; exact h1.f2 i hi, by have := h1.le; omega, h1.cap, h1.cap2, h1.gr.set _ (.inr rfl) _, h1.ltb, h1.ltQ, h1.ne⟩
  exact h2.below ((Below.refl _ _).alloc (Nat.le_refl _) x)
set_option maxRecDepth 20000 in
set_option maxHeartbeats 400000 in
theorem pop_any (w0 : World) (Q b o c N n : Nat) (l : List OneV) (x : OneV) (w : World) (h : QSt w0 Q b o c N n l w) (hn : 1 ≤ n) (ex : l[n - 1]? = some x) :
    Calls Try.prog 35 #[.pointer (some ⟨Q, 0, none⟩)] w (PopPost w0 Q b o c N n l x) := by
  obtain ⟨m, hm⟩ : ∃ m, m = n - 1 := ⟨_, rfl⟩
  have HP := Lib.hid (h.popped (.cells #[.int .i64 x.at_, .int .i64 x.live, .int .i64 x.age] 30))
  rw [← hm] at ex HP
  have cx0 := h.c0 m x ex
  have cx1 := h.c1 m x ex
  have cx2 := h.c2 m x ex
  have hq := h.q
  have hqf := h.qf
  have hQ : Q < w.heap.size := Nat.lt_of_lt_of_le h.ltQ h.gr.size
  have hmn : (m : Int) = (n : Int) - 1 := by omega
  have i1 : (0 : Int) ≤ (m : Int) := by omega
  have i2 : (m : Int) < (n : Int) := by omega
  have i3 : (n : Int) - 1 = (m : Int) := by omega
  have i4 : (n : Int) ≤ 9223372036854775807 := by have := h.le; have := h.cap; have := h.cap2; unfold maxLen at this; omega
  have i5 : (m : Int) ≤ (c : Int) := by have := h.le; have := h.cap; omega
  have HM := Lib.hid hm
  clear hmn hm h ex hn
  go_enter Try.func35, Try.ntmps35
  go_wp2
  go_ret
  exact ⟨rfl, by rw [← HM.out]; exact HP.out⟩
end Go.Proofs.Ytcjidphichlhgaa
