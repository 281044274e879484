/- Disks: which are right: plain lists. -/
import Derived.Test.YtjmgocfoimhmjaaTypes
namespace Go.Proofs.Ytjmgocfoimhmjaa
open Go.RowKit

def cellsE : List ByteArray → Int
  | [] => 0
  | s :: r => if 1024 < s.size then 2 else cellsE r
def putE (n at_ : Int) (z : Nat) : Int := if at_ < 0 ∨ n ≤ at_ then 1 else if 1024 < z then 2 else 0
def waitE (n : Int) : List PutD → Int
  | [] => 0
  | p :: r => if putE n p.At p.Text.size ≠ 0 then putE n p.At p.Text.size else waitE n r
def dskE (cs : List ByteArray) (ws : List PutD) : Int :=
  if cs.length = 0 ∨ 128 < cs.length then 1 else if cellsE cs ≠ 0 then 2 else if waitE cs.length ws ≠ 0 then waitE cs.length ws else if 400 < ws.length then 2 else 0
theorem drop_at {α : Type} {l : List α} {k : Nat} {x : α} (h : l[k]? = some x) : l.drop k = x :: l.drop (k + 1) := by
  have hk : k < l.length := (List.getElem?_eq_some_iff.1 h).1
  rw [List.drop_eq_getElem_cons hk]
  have : l[k] = x := by have := List.getElem?_eq_getElem hk; rw [this] at h; injection h
  rw [this]
theorem cellsE_big {l : List ByteArray} {k : Nat} {x : ByteArray} (h : l[k]? = some x) (hx : 1024 < x.size) : cellsE (l.drop k) = 2 := by rw [drop_at h, cellsE, if_pos hx]
theorem cellsE_go {l : List ByteArray} {k : Nat} {x : ByteArray} (h : l[k]? = some x) (hx : ¬ 1024 < x.size) : cellsE (l.drop k) = cellsE (l.drop (k + 1)) := by rw [drop_at h, cellsE, if_neg hx]
theorem cellsE_end {l : List ByteArray} {k : Nat} (h : l.length ≤ k) : cellsE (l.drop k) = 0 := by rw [List.drop_eq_nil_of_le h]; rfl
theorem waitE_bad {n : Int} {l : List PutD} {k : Nat} {a : Int} {t : ByteArray} (h : l[k]? = some ⟨a, t⟩) (hx : putE n a t.size ≠ 0) : waitE n (l.drop k) = putE n a t.size := by rw [drop_at h, waitE, if_pos hx]
theorem waitE_go {n : Int} {l : List PutD} {k : Nat} {a : Int} {t : ByteArray} (h : l[k]? = some ⟨a, t⟩) (hx : putE n a t.size = 0) : waitE n (l.drop k) = waitE n (l.drop (k + 1)) := by rw [drop_at h, waitE, if_neg (by simp [hx])]
theorem waitE_end {n : Int} {l : List PutD} {k : Nat} (h : l.length ≤ k) : waitE n (l.drop k) = 0 := by rw [List.drop_eq_nil_of_le h]; rfl
theorem putE_arg {n a : Int} {z : Nat} (h : a < 0 ∨ n ≤ a) : putE n a z = 1 := if_pos h
theorem putE_large {n a : Int} {z : Nat} (h0 : 0 ≤ a) (h1 : a < n) (h : 1024 < z) : putE n a z = 2 := by unfold putE; rw [if_neg (by omega), if_pos h]
theorem putE_ok {n a : Int} {z : Nat} (h0 : 0 ≤ a) (h1 : a < n) (h : ¬ 1024 < z) : putE n a z = 0 := by unfold putE; rw [if_neg (by omega), if_neg h]
section
variable {cs : List ByteArray} {ws : List PutD}
theorem dskE_arg (h : cs.length = 0 ∨ 128 < cs.length) : dskE cs ws = 1 := if_pos h
theorem dskE_cells (h : ¬ (cs.length = 0 ∨ 128 < cs.length)) (h2 : cellsE cs = 2) : dskE cs ws = 2 := by unfold dskE; rw [if_neg h, if_pos (by rw [h2]; decide)]
theorem dskE_wait (h : ¬ (cs.length = 0 ∨ 128 < cs.length)) (h2 : cellsE cs = 0) (h3 : waitE cs.length ws ≠ 0) : dskE cs ws = waitE cs.length ws := by unfold dskE; rw [if_neg h, if_neg (by simp [h2]), if_pos h3]
theorem dskE_many (h : ¬ (cs.length = 0 ∨ 128 < cs.length)) (h2 : cellsE cs = 0) (h3 : waitE cs.length ws = 0) (h4 : 400 < ws.length) : dskE cs ws = 2 := by unfold dskE; rw [if_neg h, if_neg (by simp [h2]), if_neg (by simp [h3]), if_pos h4]
theorem dskE_ok (h : ¬ (cs.length = 0 ∨ 128 < cs.length)) (h2 : cellsE cs = 0) (h3 : waitE cs.length ws = 0) (h4 : ¬ 400 < ws.length) : dskE cs ws = 0 := by unfold dskE; rw [if_neg h, if_neg (by simp [h2]), if_neg (by simp [h3]), if_neg h4]
end
end Go.Proofs.Ytjmgocfoimhmjaa
