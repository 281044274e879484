/- The cells of a book: where signs lie, of each length the first code, where its signs begin, how many: plain. -/
import Derived.Test.YtnnmiolgffcgkaaDecQ
import Derived.Test.YtnnmiolgffcgkaaBlk
namespace Go.Proofs.Ytnnmiolgffcgkaa
open Go.RowKit

def bookA (v : Value) (F G C : Nat → Int) : Array Value := #[v, .int .i64 (F 0), .int .i64 (F 1), .int .i64 (F 2), .int .i64 (F 3), .int .i64 (F 4), .int .i64 (F 5), .int .i64 (F 6), .int .i64 (F 7), .int .i64 (F 8), .int .i64 (F 9), .int .i64 (F 10), .int .i64 (F 11), .int .i64 (F 12), .int .i64 (F 13), .int .i64 (F 14), .int .i64 (F 15), .int .i64 (G 0), .int .i64 (G 1), .int .i64 (G 2), .int .i64 (G 3), .int .i64 (G 4), .int .i64 (G 5), .int .i64 (G 6), .int .i64 (G 7), .int .i64 (G 8), .int .i64 (G 9), .int .i64 (G 10), .int .i64 (G 11), .int .i64 (G 12), .int .i64 (G 13), .int .i64 (G 14), .int .i64 (G 15), .int .i64 (C 0), .int .i64 (C 1), .int .i64 (C 2), .int .i64 (C 3), .int .i64 (C 4), .int .i64 (C 5), .int .i64 (C 6), .int .i64 (C 7), .int .i64 (C 8), .int .i64 (C 9), .int .i64 (C 10), .int .i64 (C 11), .int .i64 (C 12), .int .i64 (C 13), .int .i64 (C 14), .int .i64 (C 15)]
def upd (F : Nat → Int) (j : Nat) (x : Int) : Nat → Int := fun k => if k = j then x else F k
theorem upd_same (F : Nat → Int) (j : Nat) (x : Int) : upd F j x j = x := by simp [upd]
theorem upd_other (F : Nat → Int) (j k : Nat) (x : Int) (h : k ≠ j) : upd F j x k = F k := by simp [upd, h]
theorem book_size (v : Value) (F G C : Nat → Int) : (bookA v F G C).size = 49 := rfl
theorem book_v (v : Value) (F G C : Nat → Int) : (bookA v F G C)[0]? = some v := rfl
theorem book_setv (v u : Value) (F G C : Nat → Int) : (bookA v F G C).setIfInBounds 0 u = bookA u F G C := rfl
theorem book_F (v : Value) (F G C : Nat → Int) : ∀ j, j < 16 → (bookA v F G C)[1 + j]? = some (.int .i64 (F j))
  | 0, _ => rfl
  | 1, _ => rfl
  | 2, _ => rfl
  | 3, _ => rfl
  | 4, _ => rfl
  | 5, _ => rfl
  | 6, _ => rfl
  | 7, _ => rfl
  | 8, _ => rfl
  | 9, _ => rfl
  | 10, _ => rfl
  | 11, _ => rfl
  | 12, _ => rfl
  | 13, _ => rfl
  | 14, _ => rfl
  | 15, _ => rfl
  | j + 16, h => by omega
theorem book_setF (v : Value) (F G C : Nat → Int) (x : Int) : ∀ j, j < 16 → (bookA v F G C).setIfInBounds (1 + j) (.int .i64 x) = bookA v (upd F j x) G C
  | 0, _ => rfl
  | 1, _ => rfl
  | 2, _ => rfl
  | 3, _ => rfl
  | 4, _ => rfl
  | 5, _ => rfl
  | 6, _ => rfl
  | 7, _ => rfl
  | 8, _ => rfl
  | 9, _ => rfl
  | 10, _ => rfl
  | 11, _ => rfl
  | 12, _ => rfl
  | 13, _ => rfl
  | 14, _ => rfl
  | 15, _ => rfl
  | j + 16, h => by omega
theorem book_G (v : Value) (F G C : Nat → Int) : ∀ j, j < 16 → (bookA v F G C)[17 + j]? = some (.int .i64 (G j))
  | 0, _ => rfl
  | 1, _ => rfl
  | 2, _ => rfl
  | 3, _ => rfl
  | 4, _ => rfl
  | 5, _ => rfl
  | 6, _ => rfl
  | 7, _ => rfl
  | 8, _ => rfl
  | 9, _ => rfl
  | 10, _ => rfl
  | 11, _ => rfl
  | 12, _ => rfl
  | 13, _ => rfl
  | 14, _ => rfl
  | 15, _ => rfl
  | j + 16, h => by omega
theorem book_setG (v : Value) (F G C : Nat → Int) (x : Int) : ∀ j, j < 16 → (bookA v F G C).setIfInBounds (17 + j) (.int .i64 x) = bookA v F (upd G j x) C
  | 0, _ => rfl
  | 1, _ => rfl
  | 2, _ => rfl
  | 3, _ => rfl
  | 4, _ => rfl
  | 5, _ => rfl
  | 6, _ => rfl
  | 7, _ => rfl
  | 8, _ => rfl
  | 9, _ => rfl
  | 10, _ => rfl
  | 11, _ => rfl
  | 12, _ => rfl
  | 13, _ => rfl
  | 14, _ => rfl
  | 15, _ => rfl
  | j + 16, h => by omega
theorem book_C (v : Value) (F G C : Nat → Int) : ∀ j, j < 16 → (bookA v F G C)[33 + j]? = some (.int .i64 (C j))
  | 0, _ => rfl
  | 1, _ => rfl
  | 2, _ => rfl
  | 3, _ => rfl
  | 4, _ => rfl
  | 5, _ => rfl
  | 6, _ => rfl
  | 7, _ => rfl
  | 8, _ => rfl
  | 9, _ => rfl
  | 10, _ => rfl
  | 11, _ => rfl
  | 12, _ => rfl
  | 13, _ => rfl
  | 14, _ => rfl
  | 15, _ => rfl
  | j + 16, h => by omega
theorem book_setC (v : Value) (F G C : Nat → Int) (x : Int) : ∀ j, j < 16 → (bookA v F G C).setIfInBounds (33 + j) (.int .i64 x) = bookA v F G (upd C j x)
  | 0, _ => rfl
  | 1, _ => rfl
  | 2, _ => rfl
  | 3, _ => rfl
  | 4, _ => rfl
  | 5, _ => rfl
  | 6, _ => rfl
  | 7, _ => rfl
  | 8, _ => rfl
  | 9, _ => rfl
  | 10, _ => rfl
  | 11, _ => rfl
  | 12, _ => rfl
  | 13, _ => rfl
  | 14, _ => rfl
  | 15, _ => rfl
  | j + 16, h => by omega
theorem book_one (v : Value) (F G C : Nat → Int) (A : Option Addr) (n c : Nat) (hv : v = .slice A n c) : (bookA v F G C).all (·.oneCell') = true := by
  subst hv; unfold bookA; simp [Value.oneCell']
end Go.Proofs.Ytnnmiolgffcgkaa
