/- A piece of a string. -/
import Derived.Test.YtgidfmdbaimcnaaDoorOwn
namespace Go.Proofs.YtgidfmdbaimcnaaDoor
open Go.RowKit

theorem strOfNums_extract (O : List Int) (i j : Nat) : (strOfNums O).extract i j = strOfNums ((O.drop i).take (j - i)) := by
  apply ByteArray.ext
  simp only [ByteArray.data_extract, strOfNums]
  apply Array.ext'
  simp [List.map_drop, List.map_take]
theorem strOfNums_drop (O : List Int) (i : Nat) : (strOfNums O).extract i O.length = strOfNums (O.drop i) := by
  rw [strOfNums_extract, List.take_of_length_le (by simp)]

theorem run_cut {P : Program} {t : TypeId} (ht : P.underlying t = some .string) (s : ByteArray) (x y : Nat) (h1 : x ≤ y) (h2 : y ≤ s.size) : ∀ W : World, (Instr.sliceAt t (.string s) (some (.int .i64 (x : Int))) (some (.int .i64 (y : Int))) none).run P W = .ok (.string (s.extract x y)) W := fun W => by
  simp [Instr.sliceAt, Instr.slice, Instr.sliceBounds, Instr.sliceBound, go_sem, h1, h2, run_underlying ht]

/-- A byte of a string, at a place that is known. -/
theorem run_idx {P : Program} {t : TypeId} (ht : P.underlying t = some .string) (s : ByteArray) (x : Int) (p : Nat) (b : Int) (hx : x = (p : Int)) (hp : p < s.size) (hb : (((s[p]'hp).toNat : Nat) : Int) = b) : ∀ W : World, (Instr.index t (.string s) (.int .i64 x)).run P W = .ok (.int .u8 b) W := fun W => by
  subst hx
  rw [run_index_string (P := P) W t s .i64 (p : Int) ht, dif_pos ⟨by omega, by omega⟩]
  subst hb
  rfl
end Go.Proofs.YtgidfmdbaimcnaaDoor
