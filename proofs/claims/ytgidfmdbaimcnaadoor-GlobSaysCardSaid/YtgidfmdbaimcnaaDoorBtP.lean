/- A string's bytes as a list; numbers back to their bytes: plain. -/
import Derived.Test.YtgidfmdbaimcnaaDoorFixP
import Derived.Test.YtgidfmdbaimcnaaDoorCut
import Derived.PlainAid
import Derived.Lib.Strings
namespace Go.Proofs.YtgidfmdbaimcnaaDoor
open Go.RowKit Go.PlainAid

theorem bt_extract (s : ByteArray) (a b i : Nat) (h : a + i < b) (hb : b ≤ s.size) : bt (s.extract a b) i = bt s (a + i) := by
  unfold bt
  have h1 : i < (s.extract a b).size := by rw [ByteArray.size_extract]; omega
  rw [dif_pos h1, dif_pos (by omega), ByteArray.getElem_extract]
theorem extract_size (s : ByteArray) (a b : Nat) (hb : b ≤ s.size) : (s.extract a b).size = b - a := by
  rw [ByteArray.size_extract]; omega
theorem beF_congr (f g : Nat → Int) : ∀ (k : Nat), (∀ i, i < k → f i = g i) → beF f k = beF g k
  | 0, _ => rfl
  | k + 1, h => by simp only [beF]; rw [beF_congr f g k (fun i hi => h i (by omega)), h k (by omega)]
/-- The bytes as a list. -/
def btL (s : ByteArray) (k : Nat) : List Int := (List.range k).map (bt s)
theorem btL_succ (s : ByteArray) (k : Nat) : btL s (k + 1) = btL s k ++ [bt s k] := by simp [btL, List.range_succ]
theorem fix4_back (f : Nat → Int) (h0 : ∀ j, 0 ≤ f j) (h1 : ∀ j, f j ≤ 255) : fixL 4 (beF f 4) = [f 0, f 1, f 2, f 3] := by
  have a0 := h0 0; have a1 := h0 1; have a2 := h0 2; have a3 := h0 3
  have b0 := h1 0; have b1 := h1 1; have b2 := h1 2; have b3 := h1 3
  simp only [fixL, beF]
  simp only [Int.reducePow, List.cons.injEq, and_true]
  refine ⟨by omega, by omega, by omega, by omega⟩
theorem fix2_back (f : Nat → Int) (h0 : ∀ j, 0 ≤ f j) (h1 : ∀ j, f j ≤ 255) : fixL 2 (beF f 2) = [f 0, f 1] := by
  have a0 := h0 0; have a1 := h0 1
  have b0 := h1 0; have b1 := h1 1
  simp only [fixL, beF]
  simp only [Int.reducePow, List.cons.injEq, and_true]
  refine ⟨by omega, by omega⟩
theorem strOf_btL (s : ByteArray) : strOfNums (btL s s.size) = s := by
  apply ByteArray.ext
  apply Array.ext'
  simp only [strOfNums, btL, List.map_map]
  apply List.ext_getElem?
  intro i
  by_cases hi : i < s.size
  · rw [List.getElem?_map, List.getElem?_range hi]
    have h1 : s.data.toList[i]? = some (s[i]'hi) := by
      rw [List.getElem?_eq_getElem (by simpa using hi)]; rfl
    rw [h1]
    simp only [Option.map_some, Function.comp]
    congr 1
    unfold bt
    rw [dif_pos hi]
    simp
  · rw [List.getElem?_eq_none (by simp; omega), List.getElem?_eq_none (by simpa using hi)]
theorem btL_length (s : ByteArray) (k : Nat) : (btL s k).length = k := by simp [btL]
theorem str_inj {a b : ByteArray} (h : a.toList = b.toList) : a = b := by
  rw [Go.Lib.toList_data, Go.Lib.toList_data] at h
  exact ByteArray.ext (Array.ext' h)
theorem str_ne {a b : ByteArray} (h : a ≠ b) : (a.toList == b.toList) = false := beq_eq_false_iff_ne.2 fun e => h (str_inj e)
theorem str_eq {a b : ByteArray} (h : a = b) : (a.toList == b.toList) = true := by rw [h]; exact beq_self_eq_true _
end Go.Proofs.YtgidfmdbaimcnaaDoor
