/- Matrices of words, as rows of cells; the bits of a word, as the walk reads them. -/
import Derived.Test.YtepibmfpmnkhiaaSumJ
import Derived.Test.YtepibmfpmnkhiaaSumW
import Derived.Test.YtepibmfpmnkhiaaBlk
namespace Go.Proofs.Ytepibmfpmnkhiaa
open Go.RowKit

def matV (m : Nat → W32) (i : Nat) : Value := .int .u32 (v32 (m i))
def matTo (m : Nat → W32) (k : Nat) : Array Value := ((List.range 32).map fun i => if i < k then matV m i else .int .u32 0).toArray
theorem matTo_size (m : Nat → W32) (k : Nat) : (matTo m k).size = 32 := by simp [matTo]
theorem matTo_get (m : Nat → W32) (k i : Nat) (h : i < 32) : (matTo m k)[i]? = some (if i < k then matV m i else .int .u32 0) := by simp [matTo, h]
theorem matTo_set (m : Nat → W32) (k : Nat) (h : k < 32) : (matTo m k).setIfInBounds k (matV m k) = matTo m (k + 1) := by
  apply Array.ext_getElem?
  intro i
  by_cases hi : i < 32
  · rw [matTo_get _ _ _ hi, Array.getElem?_setIfInBounds]
    by_cases hk : k = i
    · subst hk; simp [matTo_size, h]
    · rw [if_neg hk, matTo_get _ _ _ hi]
      by_cases h1 : i < k
      · rw [if_pos h1, if_pos (by omega)]
      · rw [if_neg h1, if_neg (by omega)]
  · have h1 := matTo_size m k
    have h2 := matTo_size m (k + 1)
    rw [Array.getElem?_eq_none (by simp; omega), Array.getElem?_eq_none (by omega)]
theorem matTo_zero (m : Nat → W32) : matTo m 0 = Array.replicate 32 (.int .u32 0) := by
  apply Array.ext_getElem?
  intro i
  by_cases hi : i < 32
  · rw [matTo_get _ _ _ hi]; simp [hi]
  · have h1 := matTo_size m 0
    rw [Array.getElem?_eq_none (by omega), Array.getElem?_eq_none (by simp; omega)]
theorem matTo_congr {m m' : Nat → W32} (h : ∀ i, i < 32 → m i = m' i) : matTo m 32 = matTo m' 32 := by
  unfold matTo
  congr 1
  apply List.map_congr_left
  intro i hi
  have := List.mem_range.1 hi
  rw [if_pos this, if_pos this]; unfold matV; rw [h i this]
theorem mat_one (m : Nat → W32) (k : Nat) : (matTo m k).all (·.oneCell') = true := by
  rw [Array.all_eq_true]
  intro i hi
  have hi' : i < 32 := by rw [matTo_size] at hi; exact hi
  have := matTo_get m k i hi'
  rw [Array.getElem?_eq_getElem hi] at this
  injection this with this
  rw [this]
  split <;> rfl
/-- The bit that the walk reads. -/
theorem sh_walk (c : W32) (i : Nat) : v32 c / (2 : Int) ^ i = v32 (c >>> i) := by
  have := shr_v32 c i
  rw [← this]; simp
theorem bit1_walk (c : W32) (i : Nat) : bits .and .u32 (v32 (c >>> i)) 1 = if c.getLsbD i then 1 else 0 := by
  rw [and1_v32, BitVec.getLsbD_ushiftRight, Nat.add_zero]
theorem ofTo_yes {m : Nat → W32} {c : W32} {k : Nat} (h : c.getLsbD k = true) : ofTo m c (k + 1) = ofTo m c k ^^^ m k := by simp only [ofTo, h, if_true]
theorem ofTo_no {m : Nat → W32} {c : W32} {k : Nat} (h : c.getLsbD k = false) : ofTo m c (k + 1) = ofTo m c k := by simp only [ofTo, h]; rfl
theorem prodTo_yes {a b : W32} {k : Nat} (h : b.getLsbD (31 - k) = true) : prodTo a b (k + 1) = crcTimes (prodTo a b k) ^^^ a := by simp only [prodTo, h, if_true]
theorem prodTo_no {a b : W32} {k : Nat} (h : b.getLsbD (31 - k) = false) : prodTo a b (k + 1) = crcTimes (prodTo a b k) := by simp only [prodTo, h]; rfl
theorem ofTo_congr {m m' : Nat → W32} (c : W32) (h : ∀ i, i < 32 → m i = m' i) : ofTo m c 32 = ofTo m' c 32 := by
  have : ∀ k, k ≤ 32 → ofTo m c k = ofTo m' c k := by
    intro k
    induction k with
    | zero => intro _; rfl
    | succ k ih => intro hk; simp only [ofTo]; rw [ih (by omega), h k (by omega)]
  exact this 32 (Nat.le_refl _)
end Go.Proofs.Ytepibmfpmnkhiaa
