/- A piece of a string. -/
import Derived.Test.YteppengbjpdaiaaOwn
namespace Go.Proofs.Yteppengbjpdaiaa
open Go.RowKit

theorem strOfNums_extract (O : List Int) (i j : Nat) : (strOfNums O).extract i j = strOfNums ((O.drop i).take (j - i)) := by
  apply ByteArray.ext
  simp only [ByteArray.data_extract, strOfNums]
  apply Array.ext'
  simp [List.map_drop, List.map_take]
theorem strOfNums_drop (O : List Int) (i : Nat) : (strOfNums O).extract i O.length = strOfNums (O.drop i) := by
  rw [strOfNums_extract, List.take_of_length_le (by simp)]

theorem run_cut {P : Program} {t : TypeId} (ht : P.underlying t = some .string) (s : ByteArray) (x y : Nat) (h1 : x ≤ y) (h2 : y ≤ s.size) : ∀ W : World, (Instr.sliceAt t (.string s) (some (.int .i64 (x : Int))) (some (.int .i64 (y : Int))) none).run P W = .ok (.string (s.extract x y)) W := fun W => by
  simp [Instr.sliceAt, Instr.slice, Instr.sliceBounds, Instr.sliceBound, go_sem, h1, h2, run_underlying ht]

end Go.Proofs.Yteppengbjpdaiaa
