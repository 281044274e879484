/- Canonical codes: rows of 17 numbers, and what the walk's rows hold. -/
import Derived.Test.YtebgcemglicjiaaPlJa
import Derived.Test.YtebgcemglicjiaaOwJa
import Derived.Laws.MakeOwn
namespace Go.Proofs.Ytebgcemglicjiaa
open Go.RowKit

def numR (N : Nat) (f : Nat → Int) : Array Value := ((List.range N).map fun i => Value.int .i64 (f i)).toArray
theorem numR_size (N : Nat) (f : Nat → Int) : (numR N f).size = N := by simp [numR]
theorem numR_get {N : Nat} (f : Nat → Int) {i : Nat} (h : i < N) : (numR N f)[i]? = some (.int .i64 (f i)) := by simp [numR, h]
theorem numR_congr {N : Nat} {f g : Nat → Int} (h : ∀ i, i < N → f i = g i) : numR N f = numR N g := by
  unfold numR
  congr 1
  apply List.map_congr_left
  intro i hi
  rw [h i (List.mem_range.1 hi)]
theorem numR_set {N : Nat} {f g : Nat → Int} {k : Nat} {v : Int} (h : ∀ i, i < N → g i = if i = k then v else f i) : (numR N f).setIfInBounds k (.int .i64 v) = numR N g := by
  apply Array.ext_getElem?
  intro i
  by_cases hi : i < N
  · rw [numR_get _ hi, Array.getElem?_setIfInBounds, h i hi]
    by_cases hk : k = i
    · subst hk; simp [numR_size, hi]
    · rw [if_neg hk, if_neg (fun e => hk e.symm), numR_get _ hi]
  · have h1 := numR_size N f
    have h2 := numR_size N g
    rw [Array.getElem?_eq_none (by simp; omega), Array.getElem?_eq_none (by omega)]
theorem numR_zero (N : Nat) : Array.replicate N (Value.int .i64 0) = numR N (fun _ => 0) := by
  apply Array.ext_getElem?
  intro i
  by_cases hi : i < N
  · rw [numR_get _ hi]; simp [hi]
  · have h1 := numR_size N (fun _ => 0)
    rw [Array.getElem?_eq_none (by simp; omega), Array.getElem?_eq_none (by omega)]
/-- The count row, after i signs. -/
def rowC (l : List Int) (i : Nat) : Array Value := numR 17 fun k => cntW k (l.take i)
/-- The count row, its cell 0 cleared. -/
def rowK (l : List Int) : Array Value := numR 17 fun k => if k = 0 then 0 else cntW k l
/-- The next row, after the lengths up to k. -/
def rowN (l : List Int) (k : Nat) : Array Value := numR 17 fun i => if 1 ≤ i ∧ i ≤ k then lowW i l else 0
/-- The next row, after i signs. -/
def rowX (l : List Int) (i : Nat) : Array Value := numR 17 fun k => if 1 ≤ k then lowW k l + cntW k (l.take i) else 0
/-- The answer's row, after i signs. -/
def rowO (l : List Int) (i : Nat) : Array Value := numR l.length fun k => if k < i then codeAt l k (l.getD k 0) else 0
theorem rowC_zero (l : List Int) : rowC l 0 = numR 17 (fun _ => 0) := numR_congr fun i _ => by simp [cntW]
theorem rowC_get (l : List Int) (i : Nat) {k : Nat} (h : k < 17) : (rowC l i)[k]? = some (.int .i64 (cntW k (l.take i))) := numR_get _ h
theorem rowC_set {l : List Int} {i X : Nat} (h : l[i]? = some (X : Int)) : (rowC l i).setIfInBounds X (.int .i64 (cntW X (l.take i) + 1)) = rowC l (i + 1) := numR_set fun k _ => by
  rw [cntW_take _ l i _ h]
  by_cases e : k = X
  · subst e; simp
  · rw [if_neg e, if_neg (by omega)]; omega
theorem rowK_set (l : List Int) : (rowC l l.length).setIfInBounds 0 (.int .i64 0) = rowK l := numR_set fun k _ => by rw [List.take_length]
theorem rowK_get (l : List Int) {k : Nat} (h0 : 1 ≤ k) (h : k < 17) : (rowK l)[k]? = some (.int .i64 (cntW k l)) := by
  rw [show (rowK l)[k]? = _ from numR_get _ h, if_neg (by omega)]
theorem rowN_one (l : List Int) : rowN l 1 = numR 17 (fun _ => 0) := numR_congr fun i _ => by
  by_cases e : i = 1
  · subst e; rw [if_pos (by omega)]; exact lowW_one l
  · rw [if_neg (by omega)]
theorem rowN_get (l : List Int) {k : Nat} (h0 : 1 ≤ k) (h : k < 17) : (rowN l k)[k]? = some (.int .i64 (lowW k l)) := by
  rw [show (rowN l k)[k]? = _ from numR_get _ h, if_pos (by omega)]
theorem rowN_next (l : List Int) {k : Nat} (h : k < 16) : (rowN l k)[k + 1]? = some (.int .i64 0) := by
  rw [show (rowN l k)[k + 1]? = _ from numR_get _ (by omega), if_neg (by omega)]
theorem rowN_set (l : List Int) {k : Nat} (h : 1 ≤ k) : (rowN l k).setIfInBounds (k + 1) (.int .i64 ((lowW k l + cntW k l) * 2)) = rowN l (k + 1) := numR_set fun i _ => by
  by_cases e : i = k + 1
  · subst e
    rw [if_pos (by omega), if_pos rfl, show ((k + 1 : Nat) : Int) = (k : Int) + 1 by omega, lowW_succ _ (by omega)]
    omega
  · rw [if_neg e]
    by_cases h1 : 1 ≤ i ∧ i ≤ k
    · rw [if_pos h1, if_pos (by omega)]
    · rw [if_neg h1, if_neg (by omega)]
theorem rowX_zero (l : List Int) : rowN l 16 = rowX l 0 := numR_congr fun i hi => by
  by_cases h : 1 ≤ i
  · rw [if_pos (by omega), if_pos h]; simp [cntW]
  · rw [if_neg (by omega), if_neg h]
theorem rowX_get (l : List Int) (i : Nat) {k : Nat} (h0 : 1 ≤ k) (h : k < 17) : (rowX l i)[k]? = some (.int .i64 (lowW k l + cntW k (l.take i))) := by
  rw [show (rowX l i)[k]? = _ from numR_get _ h, if_pos h0]
theorem rowX_set {l : List Int} {i X : Nat} (h : l[i]? = some (X : Int)) (h0 : 1 ≤ X) : (rowX l i).setIfInBounds X (.int .i64 (lowW X l + cntW X (l.take i) + 1)) = rowX l (i + 1) := numR_set fun k _ => by
  rw [cntW_take _ l i _ h]
  by_cases e : k = X
  · subst e; rw [if_pos h0, if_pos rfl]; simp; omega
  · rw [if_neg e, if_neg (show ¬ ((X : Int) = (k : Int)) by omega)]; simp
theorem rowX_skip {l : List Int} {i : Nat} (h : l[i]? = some 0) : rowX l i = rowX l (i + 1) := numR_congr fun k _ => by
  rw [cntW_take _ l i _ h]
  by_cases e : 1 ≤ k
  · rw [if_pos e, if_pos e, if_neg (by omega)]; simp
  · rw [if_neg e, if_neg e]
theorem rowO_zero (l : List Int) : rowO l 0 = numR l.length (fun _ => 0) := numR_congr fun i _ => by simp
theorem rowO_cell (l : List Int) {i : Nat} (h : i < l.length) : (rowO l i)[i]? = some (.int .i64 0) := by
  rw [show (rowO l i)[i]? = _ from numR_get _ h, if_neg (Nat.lt_irrefl _)]
theorem rowO_set {l : List Int} {i X : Nat} (h : l[i]? = some (X : Int)) (h0 : 1 ≤ X) : (rowO l i).setIfInBounds i (.int .i64 (lowW X l + cntW X (l.take i))) = rowO l (i + 1) := numR_set fun k _ => by
  by_cases e : k = i
  · subst e
    rw [if_pos (by omega), if_pos rfl, List.getD_eq_getElem?_getD, h]
    unfold codeAt; simp; omega
  · rw [if_neg e]
    by_cases h1 : k < i
    · rw [if_pos h1, if_pos (by omega)]
    · rw [if_neg h1, if_neg (by omega)]
theorem rowO_skip {l : List Int} {i : Nat} (h : l[i]? = some 0) : rowO l i = rowO l (i + 1) := numR_congr fun k _ => by
  by_cases e : k = i
  · subst e
    rw [if_neg (Nat.lt_irrefl _), if_pos (by omega), List.getD_eq_getElem?_getD, h]; rfl
  · by_cases h1 : k < i
    · rw [if_pos h1, if_pos (by omega)]
    · rw [if_neg h1, if_neg (by omega)]
theorem canL_get (l : List Int) (n k : Nat) (h : k < n) : (canL l n)[k]? = some (codeAt l k (l.getD k 0)) := by
  induction n with
  | zero => omega
  | succ n ih =>
    show (canL l n ++ [codeAt l n (l.getD n 0)])[k]? = _
    by_cases e : k < n
    · rw [List.getElem?_append_left (by rw [canL_length]; omega)]; exact ih e
    · obtain rfl : k = n := by omega
      rw [List.getElem?_append_right (by rw [canL_length]; omega), canL_length]; simp
theorem rowO_get (l : List Int) {k : Nat} {u : Int} (h : (canL l l.length)[k]? = some u) : (rowO l l.length)[k]? = some (.int .i64 u) := by
  have hk : k < l.length := by have := (List.getElem?_eq_some_iff.1 h).1; rwa [canL_length] at this
  rw [canL_get l _ k hk] at h
  injection h with h
  rw [show (rowO l l.length)[k]? = _ from numR_get _ hk, if_pos hk, h]
theorem low_bd {l : List Int} (hl : ∀ x ∈ l, 0 ≤ x ∧ x ≤ 15) (hf : fsum l ≤ 32768) {k : Int} (h0 : 1 ≤ k) (h : k ≤ 15) : 0 ≤ lowW k l ∧ 0 ≤ cntW k l ∧ lowW k l + cntW k l ≤ 32768 := by
  have h1 := low_kraft k (by omega) h l hl
  have h2 := lowW_nonneg k l
  have h3 := (cntW_bd k l).1
  have h4 := pow15 (v := k) (by omega) h
  have h5 := Int.mul_le_mul_of_nonneg_right h4.1 (show 0 ≤ lowW k l + cntW k l by omega)
  rw [Int.one_mul] at h5
  exact ⟨h2, h3, by omega⟩
theorem low_bd_take {l : List Int} (hl : ∀ x ∈ l, 0 ≤ x ∧ x ≤ 15) (hf : fsum l ≤ 32768) {k : Int} (h0 : 1 ≤ k) (h : k ≤ 15) (i : Nat) : 0 ≤ lowW k l + cntW k (l.take i) ∧ lowW k l + cntW k (l.take i) ≤ 32768 + l.length := by
  have h1 := low_bd hl hf h0 h
  have h2 := cntW_bd k (l.take i)
  have h3 : (l.take i).length ≤ l.length := by simp; omega
  omega
end Go.Proofs.Ytebgcemglicjiaa
