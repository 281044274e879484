/- lz.Find: what its tables say. -/
import Derived.Test.YtnnmiolgffcgkaaLfL
namespace Go.Proofs.Ytnnmiolgffcgkaa
open Go.RowKit Go.PlainAid

theorem Bst.small {s : ByteArray} {b st : Nat → Nat} {i0 : Nat} (h : Bst s b st i0) {j : Nat} (h1 : i0 ≤ j) (h2 : j ≤ s.size) : b j ≤ s.size - j := by
  have p := Pth.steps s (s.size - j) j (by omega)
  rw [show j + (s.size - j) = s.size by omega] at p
  exact h.least p rfl h1
theorem Bst.start {s : ByteArray} {b st : Nat → Nat} (hb : b s.size = 0) : Bst s b st s.size :=
  { last := hb, go := fun i h1 h2 => by omega, le := fun i h1 j e => by have := e.1; omega }
/-- At place p, lengths below n looked at, of L that are allowed. -/
structure Bs1 (s : ByteArray) (b st : Nat → Nat) (p n L : Nat) : Prop where
  bst : Bst s b st (p + 1)
  lt : p < s.size
  edge : Edge s p (p + st p)
  eq : b p = b (p + st p) + 1
  one : b p ≤ b (p + 1) + 1
  cmp : ∀ k, 3 ≤ k → k < n → k ≤ L → b p ≤ b (p + k) + 1
theorem Bst.upd {s : ByteArray} {b st : Nat → Nat} {p x y : Nat} (h : Bst s b st (p + 1)) (hp : p < s.size) : Bst s (updN b p x) (updN st p y) (p + 1) :=
  { last := by rw [updN_ne _ (by omega)]; exact h.last
    go := fun i h1 h2 => by
      obtain ⟨e1, e2⟩ := h.go i h1 h2
      have := e1.le
      rw [updN_ne st (show i ≠ p by omega), updN_ne b (show i ≠ p by omega), updN_ne b (show i + st i ≠ p by omega)]
      exact ⟨e1, e2⟩
    le := fun i h1 j e => by
      have := e.le
      rw [updN_ne b (show i ≠ p by omega), updN_ne b (show j ≠ p by omega)]
      exact h.le i h1 j e }
theorem Bs1.first {s : ByteArray} {b st : Nat → Nat} {p L : Nat} (h : Bst s b st (p + 1)) (hp : p < s.size) : Bs1 s (updN b p (b (p + 1) + 1)) (updN st p 1) p 3 L :=
  { bst := h.upd hp, lt := hp
    edge := by rw [updN_at]; exact ⟨hp, .inl rfl⟩
    eq := by rw [updN_at, updN_at, updN_ne b (by omega)]
    one := by rw [updN_at, updN_ne b (by omega)]; exact Nat.le_refl _
    cmp := fun k h1 h2 _ => by omega }
theorem Bs1.keep {s : ByteArray} {b st : Nat → Nat} {p n L : Nat} (h : Bs1 s b st p n L) (hno : ¬ b (p + n) + 1 ≤ b p) : Bs1 s b st p (n + 1) L :=
  have hc : ∀ k, 3 ≤ k → k < n + 1 → k ≤ L → b p ≤ b (p + k) + 1 := fun k h1 h2 h3 => by
    by_cases e : k = n
    · subst e; omega
    · exact h.cmp k h1 (by omega) h3
  { h with cmp := hc }
theorem Bs1.put {s : ByteArray} {b st : Nat → Nat} {p n L : Nat} (h : Bs1 s b st p n L) (hL : LgS s p L) (h3 : 3 ≤ n) (hn : n ≤ L) (hyes : b (p + n) + 1 ≤ b p) : Bs1 s (updN b p (b (p + n) + 1)) (updN st p n) p (n + 1) L :=
  have hr := hL.rp h3 hn
  { bst := h.bst.upd h.lt, lt := h.lt
    edge := by rw [updN_at]; exact ⟨h.lt, .inr ⟨n, h3, hr.2, rfl, hr.1⟩⟩
    eq := by rw [updN_at, updN_at, updN_ne b (by omega)]
    one := by rw [updN_at, updN_ne b (show p + 1 ≠ p by omega)]; have := h.one; omega
    cmp := fun k k1 k2 k3 => by
      rw [updN_at, updN_ne b (show p + k ≠ p by omega)]
      by_cases e : k = n
      · subst e; exact Nat.le_refl _
      · have := h.cmp k k1 (by omega) k3; omega }
theorem Bs1.done {s : ByteArray} {b st : Nat → Nat} {p n L : Nat} (h : Bs1 s b st p n L) (hL : LgS s p L) (hn : ¬ n ≤ L) : Bst s b st p :=
  { last := h.bst.last
    go := fun i h1 h2 => by
      by_cases e : i = p
      · subst e; exact ⟨h.edge, h.eq⟩
      · exact h.bst.go i (by omega) h2
    le := fun i h1 j e => by
      by_cases e2 : i = p
      · subst e2
        rcases e.2 with rfl | ⟨k, k1, k2, rfl, k3⟩
        · exact h.one
        · have := hL.2 k k1 k2 k3
          exact h.cmp k k1 (by omega) this
      · exact h.bst.le i (by omega) j e }

/-- The four rows: long, dist, best, step. -/
structure FdI (s : ByteArray) (A D P Q : Nat) (f g b st : Nat → Nat) (w0 w : World) : Prop where
  long : w.heap[A]? = some (.cells (rowV s.size f) 3 (0, 0))
  dist : w.heap[D]? = some (.cells (rowV s.size g) 3 (0, 0))
  best : w.heap[P]? = some (.cells (rowV (s.size + 1) b) 3 (0, 0))
  step : w.heap[Q]? = some (.cells (rowV (s.size + 1) st) 3 (0, 0))
  ne : A ≠ P ∧ A ≠ Q ∧ D ≠ P ∧ D ≠ Q ∧ P ≠ Q
  lo : w0.heap.size ≤ P ∧ w0.heap.size ≤ Q
  below : Below w0.heap.size w0 w
theorem FdI.drewN {s : ByteArray} {A D P Q : Nat} {f g b st : Nat → Nat} {w0 w : World} (h : FdI s A D P Q f g b st w0 w) (q : Nat) : FdI s A D P Q f g b st w0 (w.drewN q) := { h with below := h.below.drewN }
theorem FdI.grown {s : ByteArray} {A D P Q B : Nat} {f g b st : Nat → Nat} {w0 w w' : World} (h : FdI s A D P Q f g b st w0 w) (hB : A < B ∧ D < B ∧ P < B ∧ Q < B) (hw : w0.heap.size ≤ B) {row : Option Nat} (hg : w.grownBy w' row) (hr : ∀ k, row = some k → B ≤ k) : FdI s A D P Q f g b st w0 w' :=
  have hk : ∀ k, k < B → k < w.heap.size → w'.heap[k]? = w.heap[k]? := fun k h1 h2 => hg.block k h2 (fun e => by have := hr k e.symm; omega)
  { long := (hk A hB.1 (Array.getElem?_eq_some_iff.1 h.long).1).trans h.long
    dist := (hk D hB.2.1 (Array.getElem?_eq_some_iff.1 h.dist).1).trans h.dist
    best := (hk P hB.2.2.1 (Array.getElem?_eq_some_iff.1 h.best).1).trans h.best
    step := (hk Q hB.2.2.2 (Array.getElem?_eq_some_iff.1 h.step).1).trans h.step
    ne := h.ne, lo := h.lo
    below := h.below.grown hg h.below.size (fun k e => by have := hr k e; omega) }
/-- best[p], step[p] = x, y. -/
theorem FdI.put {s : ByteArray} {A D P Q : Nat} {f g b st : Nat → Nat} {w0 w : World} (h : FdI s A D P Q f g b st w0 w) (p x y : Nat) :
    FdI s A D P Q f g (updN b p x) (updN st p y) w0 ((w.setCell ⟨P, p, none⟩ (.int .i64 (x : Int))).setCell ⟨Q, p, none⟩ (.int .i64 (y : Int))) := by
  obtain ⟨n1, n2, n3, n4, n5⟩ := h.ne
  have b1 : (w.setCell ⟨P, p, none⟩ (.int .i64 (x : Int))).heap[P]? = some (.cells (rowV (s.size + 1) (updN b p x)) 3 (0, 0)) := (row_store (j := p) (v := .int .i64 (x : Int)) h.best).trans (by rw [rowV_set])
  have s1 : (w.setCell ⟨P, p, none⟩ (.int .i64 (x : Int))).heap[Q]? = some (.cells (rowV (s.size + 1) st) 3 (0, 0)) := (Below.heap_setCell _ _ _ Q (fun e => n5 e.symm)).trans h.step
  exact { long := (Below.heap_setCell _ _ _ A n2).trans ((Below.heap_setCell _ _ _ A n1).trans h.long)
          dist := (Below.heap_setCell _ _ _ D n4).trans ((Below.heap_setCell _ _ _ D n3).trans h.dist)
          best := (Below.heap_setCell _ _ _ P n5).trans b1
          step := (row_store (j := p) (v := .int .i64 (y : Int)) s1).trans (by rw [rowV_set])
          ne := h.ne, lo := h.lo
          below := (h.below.setCell (p := ⟨P, p, none⟩) h.lo.1 _).setCell (p := ⟨Q, p, none⟩) h.lo.2 _ }
def FdPost (s : ByteArray) (w : World) (e : Ending) (w' : World) : Prop := (512 < s.size ∧ e = .returned (.tuple #[.slice none 0 0, .int .i64 2]) ∧ w' = w) ∨
  (s.size ≤ 512 ∧ ∃ ao m cap, e = .returned (.tuple #[.slice ao m cap, .int .i64 0]) ∧ Lst s 0 s.size m ∧ Below w.heap.size w w')
end Go.Proofs.Ytnnmiolgffcgkaa
