/- What a code costs: plain lists. -/
import Derived.Test.YtoncakcfibahaaaFillP
namespace Go.Proofs.Ytoncakcfibahaaa
open Go.RowKit

/-- What is wrong with how often signs come, from the first on. -/
def freqL : List Int → Int
  | [] => 0
  | f :: r => if f < 0 then 1 else if 1048576 < f then 2 else freqL r
def freqE (l : List Int) : Int := if 320 < l.length then 2 else freqL l
theorem freqE_large {l : List Int} (h : 320 < l.length) : freqE l = 2 := if_pos h
theorem freqE_list {l : List Int} (h : ¬ 320 < l.length) : freqE l = freqL l := if_neg h
theorem freqL_drop {l : List Int} {k : Nat} {x : Int} (h : l[k]? = some x) : freqL (l.drop k) = if x < 0 then 1 else if 1048576 < x then 2 else freqL (l.drop (k + 1)) := by
  have hk : k < l.length := (List.getElem?_eq_some_iff.1 h).1
  rw [List.drop_eq_getElem_cons hk]
  have : l[k] = x := by have := List.getElem?_eq_getElem hk; rw [this] at h; injection h
  rw [this]; rfl
theorem freqL_neg {l : List Int} {k : Nat} {x : Int} (h : l[k]? = some x) (hx : x < 0) : freqL (l.drop k) = 1 := by rw [freqL_drop h, if_pos hx]
theorem freqL_big {l : List Int} {k : Nat} {x : Int} (h : l[k]? = some x) (hx : 1048576 < x) : freqL (l.drop k) = 2 := by rw [freqL_drop h, if_neg (by omega), if_pos hx]
theorem freqL_ok {l : List Int} {k : Nat} {x : Int} (h : l[k]? = some x) (h0 : ¬ x < 0) (h1 : ¬ 1048576 < x) : freqL (l.drop k) = freqL (l.drop (k + 1)) := by rw [freqL_drop h, if_neg h0, if_neg h1]
theorem freqL_end {l : List Int} {k : Nat} (h : l.length ≤ k) : freqL (l.drop k) = 0 := by rw [List.drop_eq_nil_of_le h]; rfl
theorem freqL_zero {l : List Int} (h : freqL l = 0) : ∀ x ∈ l, 0 ≤ x ∧ x ≤ 1048576 := by
  induction l with
  | nil => simp
  | cons a r ih =>
    simp only [freqL] at h
    by_cases h0 : a < 0
    · rw [if_pos h0] at h; cases h
    · rw [if_neg h0] at h
      by_cases h1 : 1048576 < a
      · rw [if_pos h1] at h; cases h
      · rw [if_neg h1] at h
        intro x hx
        rcases List.mem_cons.1 hx with rfl | hx
        · omega
        · exact ih h x hx
theorem freqL_cases (l : List Int) : freqL l = 0 ∨ freqL l = 1 ∨ freqL l = 2 := by
  induction l with
  | nil => exact .inl rfl
  | cons a r ih => simp only [freqL]; split; · exact .inr (.inl rfl)
                   split; · exact .inr (.inr rfl)
                   exact ih
theorem freqE_cases (l : List Int) : freqE l = 0 ∨ freqE l = 1 ∨ freqE l = 2 := by
  unfold freqE; split; · exact .inr (.inr rfl)
  exact freqL_cases l
theorem freqE_zero {l : List Int} (h : freqE l = 0) : l.length ≤ 320 ∧ ∀ x ∈ l, 0 ≤ x ∧ x ≤ 1048576 := by
  unfold freqE at h
  split at h
  · cases h
  · exact ⟨by omega, freqL_zero h⟩
theorem fillE_cases (l : List Int) : fillE l = 0 ∨ fillE l = 1 ∨ fillE l = 2 := by
  unfold fillE; split; · exact .inr (.inr rfl)
  split; · exact .inl rfl
  exact .inr (.inl rfl)
theorem fillE_zero {l : List Int} (h : fillE l = 0) : l.length ≤ 320 ∧ ∀ x ∈ l, 0 ≤ x ∧ x ≤ 15 := by
  unfold fillE at h
  split at h
  · cases h
  · split at h
    · rename_i h1
      exact ⟨by omega, fun x hx => (okLen_iff x).1 (List.all_eq_true.1 h1 x hx)⟩
    · cases h
def dot (f l : List Int) : Int := (List.zipWith (· * ·) f l).sum
theorem dot_take {f l : List Int} {k : Nat} {a b : Int} (h : f[k]? = some a) (h' : l[k]? = some b) : dot (f.take (k + 1)) (l.take (k + 1)) = dot (f.take k) (l.take k) + a * b := by
  have hk : k < f.length := (List.getElem?_eq_some_iff.1 h).1
  have hk' : k < l.length := (List.getElem?_eq_some_iff.1 h').1
  unfold dot
  rw [List.take_add_one, List.take_add_one, h, h', List.zipWith_append (by simp; omega)]
  simp
theorem dot_all {f l : List Int} {k : Nat} (h : f.length ≤ k) (h' : l.length ≤ k) : dot (f.take k) (l.take k) = dot f l := by
  rw [List.take_of_length_le h, List.take_of_length_le h']
theorem prod_bd {a b : Int} (h0 : 0 ≤ a) (h1 : a ≤ 1048576) (h2 : 0 ≤ b) (h3 : b ≤ 15) : 0 ≤ a * b ∧ a * b ≤ 15728640 := by
  refine ⟨Int.mul_nonneg h0 h2, ?_⟩
  have := Int.mul_le_mul h1 h3 h2 (by omega)
  omega
/-- The answer. -/
def costE (f l : List Int) : Int := if freqE f ≠ 0 then freqE f else if fillE l ≠ 0 then fillE l else if l.length ≠ f.length then 1 else 0
def costV (f l : List Int) : Int := if freqE f ≠ 0 then 0 else if fillE l ≠ 0 then 0 else if l.length ≠ f.length then 0 else dot f l
theorem cost_freq {f l : List Int} (h : freqE f ≠ 0) : costV f l = 0 ∧ costE f l = freqE f := by unfold costV costE; rw [if_pos h, if_pos h]; exact ⟨rfl, rfl⟩
theorem cost_fill {f l : List Int} (h : freqE f = 0) (h2 : fillE l ≠ 0) : costV f l = 0 ∧ costE f l = fillE l := by unfold costV costE; simp [h, h2]
theorem cost_len {f l : List Int} (h : freqE f = 0) (h2 : fillE l = 0) (h3 : l.length ≠ f.length) : costV f l = 0 ∧ costE f l = 1 := by unfold costV costE; simp [h, h2, h3]
theorem cost_ok {f l : List Int} (h : freqE f = 0) (h2 : fillE l = 0) (h3 : l.length = f.length) : costV f l = dot f l ∧ costE f l = 0 := by unfold costV costE; simp [h, h2, h3]
end Go.Proofs.Ytoncakcfibahaaa
