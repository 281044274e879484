/- A book's signs: those of each length, in order: plain. -/
import Derived.Test.YtebgcemglicjiaaDcJa
import Derived.Test.YtebgcemglicjiaaOwJa
/- The cells of a book: where signs lie, of each length the first code, where its signs begin, how many: plain. -/
namespace Go.Proofs.Ytebgcemglicjiaa
open Go.RowKit

def bookA (v : Value) (F G C : Nat → Int) : Array Value := #[v, .int .i64 (F 0), .int .i64 (F 1), .int .i64 (F 2), .int .i64 (F 3), .int .i64 (F 4), .int .i64 (F 5), .int .i64 (F 6), .int .i64 (F 7), .int .i64 (F 8), .int .i64 (F 9), .int .i64 (F 10), .int .i64 (F 11), .int .i64 (F 12), .int .i64 (F 13), .int .i64 (F 14), .int .i64 (F 15), .int .i64 (G 0), .int .i64 (G 1), .int .i64 (G 2), .int .i64 (G 3), .int .i64 (G 4), .int .i64 (G 5), .int .i64 (G 6), .int .i64 (G 7), .int .i64 (G 8), .int .i64 (G 9), .int .i64 (G 10), .int .i64 (G 11), .int .i64 (G 12), .int .i64 (G 13), .int .i64 (G 14), .int .i64 (G 15), .int .i64 (C 0), .int .i64 (C 1), .int .i64 (C 2), .int .i64 (C 3), .int .i64 (C 4), .int .i64 (C 5), .int .i64 (C 6), .int .i64 (C 7), .int .i64 (C 8), .int .i64 (C 9), .int .i64 (C 10), .int .i64 (C 11), .int .i64 (C 12), .int .i64 (C 13), .int .i64 (C 14), .int .i64 (C 15)]
def upd (F : Nat → Int) (j : Nat) (x : Int) : Nat → Int := fun k => if k = j then x else F k
theorem upd_same (F : Nat → Int) (j : Nat) (x : Int) : upd F j x j = x := by simp [upd]
theorem upd_other (F : Nat → Int) (j k : Nat) (x : Int) (h : k ≠ j) : upd F j x k = F k := by simp [upd, h]
theorem book_size (v : Value) (F G C : Nat → Int) : (bookA v F G C).size = 49 := rfl
theorem book_v (v : Value) (F G C : Nat → Int) : (bookA v F G C)[0]? = some v := rfl
theorem book_setv (v u : Value) (F G C : Nat → Int) : (bookA v F G C).setIfInBounds 0 u = bookA u F G C := rfl
theorem book_F (v : Value) (F G C : Nat → Int) : ∀ j, j < 16 → (bookA v F G C)[1 + j]? = some (.int .i64 (F j))
  | 0, _ => rfl
  | 1, _ => rfl
  | 2, _ => rfl
  | 3, _ => rfl
  | 4, _ => rfl
  | 5, _ => rfl
  | 6, _ => rfl
  | 7, _ => rfl
  | 8, _ => rfl
  | 9, _ => rfl
  | 10, _ => rfl
  | 11, _ => rfl
  | 12, _ => rfl
  | 13, _ => rfl
  | 14, _ => rfl
  | 15, _ => rfl
  | j + 16, h => by omega
theorem book_setF (v : Value) (F G C : Nat → Int) (x : Int) : ∀ j, j < 16 → (bookA v F G C).setIfInBounds (1 + j) (.int .i64 x) = bookA v (upd F j x) G C
  | 0, _ => rfl
  | 1, _ => rfl
  | 2, _ => rfl
  | 3, _ => rfl
  | 4, _ => rfl
  | 5, _ => rfl
  | 6, _ => rfl
  | 7, _ => rfl
  | 8, _ => rfl
  | 9, _ => rfl
  | 10, _ => rfl
  | 11, _ => rfl
  | 12, _ => rfl
  | 13, _ => rfl
  | 14, _ => rfl
  | 15, _ => rfl
  | j + 16, h => by omega
theorem book_G (v : Value) (F G C : Nat → Int) : ∀ j, j < 16 → (bookA v F G C)[17 + j]? = some (.int .i64 (G j))
  | 0, _ => rfl
  | 1, _ => rfl
  | 2, _ => rfl
  | 3, _ => rfl
  | 4, _ => rfl
  | 5, _ => rfl
  | 6, _ => rfl
  | 7, _ => rfl
  | 8, _ => rfl
  | 9, _ => rfl
  | 10, _ => rfl
  | 11, _ => rfl
  | 12, _ => rfl
  | 13, _ => rfl
  | 14, _ => rfl
  | 15, _ => rfl
  | j + 16, h => by omega
theorem book_setG (v : Value) (F G C : Nat → Int) (x : Int) : ∀ j, j < 16 → (bookA v F G C).setIfInBounds (17 + j) (.int .i64 x) = bookA v F (upd G j x) C
  | 0, _ => rfl
  | 1, _ => rfl
  | 2, _ => rfl
  | 3, _ => rfl
  | 4, _ => rfl
  | 5, _ => rfl
  | 6, _ => rfl
  | 7, _ => rfl
  | 8, _ => rfl
  | 9, _ => rfl
  | 10, _ => rfl
  | 11, _ => rfl
  | 12, _ => rfl
  | 13, _ => rfl
  | 14, _ => rfl
  | 15, _ => rfl
  | j + 16, h => by omega
theorem book_C (v : Value) (F G C : Nat → Int) : ∀ j, j < 16 → (bookA v F G C)[33 + j]? = some (.int .i64 (C j))
  | 0, _ => rfl
  | 1, _ => rfl
  | 2, _ => rfl
  | 3, _ => rfl
  | 4, _ => rfl
  | 5, _ => rfl
  | 6, _ => rfl
  | 7, _ => rfl
  | 8, _ => rfl
  | 9, _ => rfl
  | 10, _ => rfl
  | 11, _ => rfl
  | 12, _ => rfl
  | 13, _ => rfl
  | 14, _ => rfl
  | 15, _ => rfl
  | j + 16, h => by omega
theorem book_setC (v : Value) (F G C : Nat → Int) (x : Int) : ∀ j, j < 16 → (bookA v F G C).setIfInBounds (33 + j) (.int .i64 x) = bookA v F G (upd C j x)
  | 0, _ => rfl
  | 1, _ => rfl
  | 2, _ => rfl
  | 3, _ => rfl
  | 4, _ => rfl
  | 5, _ => rfl
  | 6, _ => rfl
  | 7, _ => rfl
  | 8, _ => rfl
  | 9, _ => rfl
  | 10, _ => rfl
  | 11, _ => rfl
  | 12, _ => rfl
  | 13, _ => rfl
  | 14, _ => rfl
  | 15, _ => rfl
  | j + 16, h => by omega
theorem book_one (v : Value) (F G C : Nat → Int) (A : Option Addr) (n c : Nat) (hv : v = .slice A n c) : (bookA v F G C).all (·.oneCell') = true := by
  subst hv; unfold bookA; simp [Value.oneCell']
end Go.Proofs.Ytebgcemglicjiaa

namespace Go.Proofs.Ytebgcemglicjiaa
open Go.RowKit

/-- The signs of length w among the first k. -/
def idxL (l : List Int) (w : Int) : Nat → List Int
  | 0 => []
  | k + 1 => idxL l w k ++ (if l[k]? = some w then [(k : Int)] else [])
theorem idxL_succ {l : List Int} {w : Int} {k : Nat} {x : Int} (h : l[k]? = some x) : idxL l w (k + 1) = idxL l w k ++ (if x = w then [(k : Int)] else []) := by
  simp only [idxL]; rw [h]
  by_cases e : x = w
  · subst e; simp
  · rw [if_neg e, if_neg (by intro k; injection k with k; exact e k)]
theorem idxL_len (l : List Int) (w : Int) : ∀ k, k ≤ l.length → ((idxL l w k).length : Int) = cntW w (l.take k)
  | 0, _ => by simp [idxL, cntW]
  | k + 1, h => by
    have e := List.getElem?_eq_getElem (l := l) (i := k) (by omega)
    rw [idxL_succ e, List.length_append, cntW_take w l k _ e]
    have := idxL_len l w k (by omega)
    split <;> simp <;> omega
theorem idxL_get {l : List Int} {w : Int} {i : Nat} (hi : l[i]? = some w) : ∀ k, i < k → k ≤ l.length → (idxL l w k)[(cntW w (l.take i)).toNat]? = some (i : Int)
  | 0, h, _ => by omega
  | k + 1, h, hk => by
    have e := List.getElem?_eq_getElem (l := l) (i := k) (by omega)
    rw [idxL_succ e]
    have hl := idxL_len l w k (by omega)
    by_cases hik : i < k
    · have ih := idxL_get hi k hik (by omega)
      rw [List.getElem?_append_left (List.getElem?_eq_some_iff.1 ih).1]; exact ih
    · obtain rfl : i = k := by omega
      have hx : l[i] = w := by rw [e] at hi; injection hi
      rw [if_pos hx, List.getElem?_append_right (by omega), show (cntW w (l.take i)).toNat - (idxL l w i).length = 0 by omega]; rfl
/-- The signs of lengths 1 .. w - 1. -/
def sgL (l : List Int) : Nat → List Int
  | 0 => []
  | w + 1 => sgL l w ++ (if w = 0 then [] else idxL l w l.length)
theorem sgL_succ {l : List Int} {w : Nat} (h : 0 < w) : sgL l (w + 1) = sgL l w ++ idxL l w l.length := by
  simp only [sgL]; rw [if_neg (by omega)]
theorem sgL_one (l : List Int) : sgL l 1 = [] := by simp [sgL]
theorem sgL_get {l : List Int} {w : Nat} (hw : 0 < w) {i : Nat} (hi : l[i]? = some (w : Int)) : ∀ W, w < W → (sgL l W)[(sgL l w).length + (cntW w (l.take i)).toNat]? = some (i : Int)
  | 0, h => by omega
  | W + 1, h => by
    have hil := (List.getElem?_eq_some_iff.1 hi).1
    by_cases hwW : w < W
    · have ih := sgL_get hw hi W hwW
      rw [sgL_succ (by omega), List.getElem?_append_left (List.getElem?_eq_some_iff.1 ih).1]; exact ih
    · obtain rfl : w = W := by omega
      rw [sgL_succ hw, List.getElem?_append_right (by omega), show (sgL l w).length + (cntW w (l.take i)).toNat - (sgL l w).length = (cntW w (l.take i)).toNat by omega]
      exact idxL_get hi _ hil (Nat.le_refl _)
theorem sgL_len (l : List Int) : ∀ W, (sgL l W).length ≤ W * l.length
  | 0 => by simp [sgL]
  | W + 1 => by
    have ih := sgL_len l W
    rw [Nat.add_mul]
    simp only [sgL, List.length_append]
    split
    · simp; omega
    · have h := idxL_len l W l.length (Nat.le_refl _)
      have := (cntW_bd W (l.take l.length)).2
      simp at this h
      omega
/-- What the book holds: of each length 1 .. 15 the first code, where its signs begin; how many there are. -/
def bkF (l : List Int) (k : Nat) : Nat → Int := fun w => if 0 < w ∧ w < k then lowW w l else 0
def bkG (l : List Int) (k : Nat) : Nat → Int := fun w => if 0 < w ∧ w < k then (sgL l w).length else 0
def bkC (l : List Int) : Nat → Int := fun w => if 0 < w then cntW w l else 0
theorem bkF_upd (l : List Int) {k : Nat} (hk : 0 < k) : upd (bkF l k) k (lowW k l) = bkF l (k + 1) := by
  funext w
  unfold upd bkF
  by_cases h : w = k
  · subst h; rw [if_pos rfl, if_pos ⟨hk, by omega⟩]
  · rw [if_neg h]
    by_cases h2 : 0 < w ∧ w < k
    · rw [if_pos h2, if_pos ⟨h2.1, by omega⟩]
    · rw [if_neg h2, if_neg (by omega)]
theorem bkG_upd (l : List Int) {k : Nat} (hk : 0 < k) : upd (bkG l k) k ((sgL l k).length : Int) = bkG l (k + 1) := by
  funext w
  unfold upd bkG
  by_cases h : w = k
  · subst h; rw [if_pos rfl, if_pos ⟨hk, by omega⟩]
  · rw [if_neg h]
    by_cases h2 : 0 < w ∧ w < k
    · rw [if_pos h2, if_pos ⟨h2.1, by omega⟩]
    · rw [if_neg h2, if_neg (by omega)]
theorem bk_start (l : List Int) : bkF l 1 = (fun _ => 0) ∧ bkG l 1 = (fun _ => 0) := by
  constructor <;> (funext w; first | unfold bkF | unfold bkG) <;> rw [if_neg (by omega)]
theorem cnt_upd (l : List Int) {i : Nat} {x : Nat} (h : l[i]? = some (x : Int)) : upd (fun w => cntW w (l.take i)) x (cntW x (l.take i) + 1) = (fun w : Nat => cntW w (l.take (i + 1))) := by
  funext w
  unfold upd
  rw [cntW_take w l i _ h]
  by_cases e : w = x
  · subst e; rw [if_pos rfl, if_pos rfl]
  · rw [if_neg e, if_neg (by omega), Int.add_zero]
theorem cnt_zero (l : List Int) : (fun w : Nat => cntW w (l.take 0)) = (fun _ => 0) := by funext w; simp [cntW]
theorem cnt_end (l : List Int) : upd (fun w : Nat => cntW w (l.take l.length)) 0 0 = bkC l := by
  funext w
  unfold upd bkC
  rw [List.take_length]
  by_cases e : w = 0
  · subst e; simp
  · rw [if_neg e, if_pos (by omega)]
end Go.Proofs.Ytebgcemglicjiaa
