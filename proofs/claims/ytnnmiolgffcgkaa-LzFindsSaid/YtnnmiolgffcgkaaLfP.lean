/- Fewest marks: shortest ways through a text: plain. -/
import Derived.Test.YtnnmiolgffcgkaaBtP
namespace Go.Proofs.Ytnnmiolgffcgkaa
open Go.RowKit Go.PlainAid

def same (s : ByteArray) (k i n : Nat) : Prop := ∀ j, j < n → bt s (k + j) = bt s (i + j)
theorem same_le {s : ByteArray} {k i n m : Nat} (h : same s k i n) (hm : m ≤ n) : same s k i m := fun j hj => h j (by omega)
/-- The n bytes from i on begin ahead of i. -/
def Rp (s : ByteArray) (i n : Nat) : Prop := i + n ≤ s.size ∧ ∃ k, k < i ∧ same s k i n
theorem Rp.le {s : ByteArray} {i n m : Nat} (h : Rp s i n) (hm : m ≤ n) : Rp s i m := by
  obtain ⟨h1, k, h2, h3⟩ := h
  exact ⟨by omega, k, h2, same_le h3 hm⟩
/-- One mark. -/
def Edge (s : ByteArray) (i j : Nat) : Prop := i < s.size ∧ (j = i + 1 ∨ ∃ n, 3 ≤ n ∧ n ≤ 66 ∧ j = i + n ∧ Rp s i n)
theorem Edge.le {s : ByteArray} {i j : Nat} (h : Edge s i j) : i < j ∧ j ≤ s.size := by
  obtain ⟨h0, h1 | ⟨n, h1, h2, h3, h4⟩⟩ := h
  · omega
  · have := h4.1; omega
inductive Pth (s : ByteArray) : Nat → Nat → Nat → Prop
  | nil (i : Nat) : Pth s i i 0
  | cons {i j k m : Nat} : Edge s i j → Pth s j k m → Pth s i k (m + 1)
theorem Pth.snoc {s : ByteArray} {i j k m : Nat} (h : Pth s i j m) (e : Edge s j k) : Pth s i k (m + 1) := by
  induction h with
  | nil i => exact .cons e (.nil _)
  | cons e1 _ ih => exact .cons e1 (ih e)
theorem Pth.steps (s : ByteArray) : ∀ (m i : Nat), i + m ≤ s.size → Pth s i (i + m) m
  | 0, i, _ => .nil i
  | m + 1, i, h => by
    have := Pth.steps s m (i + 1) (by omega)
    rw [show i + (m + 1) = i + 1 + m by omega]
    exact .cons ⟨by omega, .inl rfl⟩ this
/-- The least number of marks from i to j. -/
def Lst (s : ByteArray) (i j m : Nat) : Prop := Pth s i j m ∧ ∀ m', Pth s i j m' → m ≤ m'
theorem Lst.uniq {s : ByteArray} {i j a b : Nat} (h : Lst s i j a) (k : Lst s i j b) : a = b := Nat.le_antisymm (h.2 b k.1) (k.2 a h.1)
/-- How long a copy at i may be at most: nought, or the greatest. -/
def LgS (s : ByteArray) (i L : Nat) : Prop := (L = 0 ∨ (3 ≤ L ∧ L ≤ 66 ∧ Rp s i L)) ∧ ∀ n, 3 ≤ n → n ≤ 66 → Rp s i n → n ≤ L
theorem LgS.rp {s : ByteArray} {i L n : Nat} (h : LgS s i L) (h3 : 3 ≤ n) (hn : n ≤ L) : Rp s i n ∧ n ≤ 66 := by
  rcases h.1 with h1 | ⟨h1, h2, h4⟩
  · omega
  · exact ⟨h4.le hn, by omega⟩
theorem LgS.end_ {s : ByteArray} {i : Nat} (h : s.size < i + 3) : LgS s i 0 := ⟨.inl rfl, fun n h3 _ hr => by have := hr.1; omega⟩
/-- Backwards: what best and step say from i0 on. -/
structure Bst (s : ByteArray) (b st : Nat → Nat) (i0 : Nat) : Prop where
  last : b s.size = 0
  go : ∀ i, i0 ≤ i → i < s.size → Edge s i (i + st i) ∧ b i = b (i + st i) + 1
  le : ∀ i, i0 ≤ i → ∀ j, Edge s i j → b i ≤ b j + 1
theorem Bst.path {s : ByteArray} {b st : Nat → Nat} {i0 : Nat} (h : Bst s b st i0) : ∀ (d i : Nat), i0 ≤ i → i ≤ s.size → s.size - i = d → Pth s i s.size (b i) := by
  intro d
  induction d using Nat.strongRecOn with
  | _ d ih =>
    intro i hi hN hd
    by_cases e : i = s.size
    · rw [e, h.last]; exact .nil _
    · obtain ⟨h1, h2⟩ := h.go i hi (by omega)
      have hle := h1.le
      rw [h2]
      exact .cons h1 (ih (s.size - (i + st i)) (by omega) (i + st i) (by omega) hle.2 rfl)
theorem Bst.least {s : ByteArray} {b st : Nat → Nat} {i0 : Nat} (h : Bst s b st i0) {i j m : Nat} (p : Pth s i j m) : j = s.size → i0 ≤ i → b i ≤ m := by
  induction p with
  | nil i => intro hj _; rw [hj, h.last]; exact Nat.le_refl _
  | cons e _ ih =>
    intro hj hi
    have h1 := h.le _ hi _ e
    have h2 := ih hj (by have := e.le; omega)
    omega
theorem Bst.lst {s : ByteArray} {b st : Nat → Nat} (h : Bst s b st 0) : Lst s 0 s.size (b 0) := ⟨h.path _ 0 (Nat.le_refl _) (Nat.zero_le _) rfl, fun _ p => h.least p rfl (Nat.zero_le _)⟩
/-- Forwards: what best says behind i places. -/
structure Fwd (s : ByteArray) (v : Nat → Nat) (E : Nat → Nat → Prop) : Prop where
  zero : v 0 = 0
  snd : ∀ j, j ≤ s.size → v j < 1073741824 → Pth s 0 j (v j)
  cmp : ∀ i j, E i j → v j ≤ v i + 1
  top : ∀ j, v j ≤ 1073741824
theorem Fwd.least {s : ByteArray} {v : Nat → Nat} (h : Fwd s v (Edge s)) {i j m : Nat} (p : Pth s i j m) : v j ≤ v i + m := by
  induction p with
  | nil i => exact Nat.le_refl _
  | cons e _ ih => have := h.cmp _ _ e; omega
theorem Fwd.lst {s : ByteArray} {v : Nat → Nat} (h : Fwd s v (Edge s)) (hN : s.size ≤ 512) : Lst s 0 s.size (v s.size) := by
  have h1 := h.least (by have := Pth.steps s s.size 0 (by omega); rwa [Nat.zero_add] at this)
  rw [h.zero] at h1
  exact ⟨h.snd _ (Nat.le_refl _) (by omega), fun m p => by have := h.least p; rw [h.zero] at this; omega⟩
end Go.Proofs.Ytnnmiolgffcgkaa
