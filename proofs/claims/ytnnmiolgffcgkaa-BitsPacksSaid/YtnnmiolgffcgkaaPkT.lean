/- linenref.Text of a list of bits: plain. -/
import Derived.Test.YtnnmiolgffcgkaaPkF
namespace Go.Proofs.Ytnnmiolgffcgkaa
open Go.RowKit Go.PlainAid

theorem byteL_take {L : List Int} {i : Nat} {x : Int} (h : L[i]? = some x) (j : Nat) : byteL (L.take (i + 1)) j = byteL (L.take i) j + (if j = i / 8 then x * 2 ^ (i % 8) else 0) := by
  have hi := (List.getElem?_eq_some_iff.1 h).1
  have hl : (L.take i).length = i := by rw [List.length_take]; omega
  have e : L.take (i + 1) = L.take i ++ [x] := by rw [List.take_add_one, h]; rfl
  unfold byteL
  rw [e]
  by_cases h1 : j = i / 8
  · rw [if_pos h1, List.drop_append_of_le_length (by omega)]
    have hd : ((L.take i).drop (8 * j)).length = i % 8 := by rw [List.length_drop, hl]; omega
    generalize (L.take i).drop (8 * j) = D at *
    rw [List.take_of_length_le (by rw [List.length_append, hd]; simp; omega), List.take_of_length_le (by rw [hd]; omega), horn_app, hd]
    simp [horn, Int.mul_comm]
  · rw [if_neg h1, Int.add_zero]
    by_cases h2 : j < i / 8
    · rw [List.drop_append_of_le_length (by omega), List.take_append_of_le_length (by rw [List.length_drop]; omega)]
    · rw [List.drop_eq_nil_of_le (by rw [List.length_append, hl]; simp; omega), List.drop_eq_nil_of_le (by omega)]
/-- The bytes as they stand after i bits. -/
def rowT (L : List Int) (N i : Nat) : Array Value := ((List.range N).map fun j => Value.int .u8 (byteL (L.take i) j)).toArray
theorem rowT_get {L : List Int} {N i j : Nat} (h : j < N) : (rowT L N i)[j]? = some (.int .u8 (byteL (L.take i) j)) := by simp [rowT, h]
theorem rowT_same {L : List Int} {N i : Nat} (h : L[i]? = some 0) : rowT L N (i + 1) = rowT L N i := by
  unfold rowT; congr 1; apply List.map_congr_left; intro j _; rw [byteL_take h]; simp
theorem rowT_set {L : List Int} {N i : Nat} (h : L[i]? = some 1) : (rowT L N i).setIfInBounds (i / 8) (.int .u8 (byteL (L.take i) (i / 8) + 2 ^ (i % 8))) = rowT L N (i + 1) := by
  apply Array.ext_getElem?
  intro j
  by_cases hj : j < N
  · rw [rowT_get hj, byteL_take h]
    by_cases e : i / 8 = j
    · subst e; simp [rowT, hj]
    · rw [Array.getElem?_setIfInBounds_ne e, rowT_get hj, if_neg (fun k => e k.symm), Int.add_zero]
  · rw [Array.getElem?_eq_none (by simp [rowT]; omega), Array.getElem?_eq_none (by simp [rowT]; omega)]
end Go.Proofs.Ytnnmiolgffcgkaa
