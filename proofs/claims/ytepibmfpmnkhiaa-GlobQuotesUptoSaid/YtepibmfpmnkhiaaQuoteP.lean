/- A string with a backslash before each of * ? [ \ in it: plain lists of bytes. -/
import Derived.Test.YtepibmfpmnkhiaaOwn
import Derived.PlainAid
import Derived.Lib.Strings
import Derived.Lib.Bytealg
namespace Go.Proofs.Ytepibmfpmnkhiaa
open Go.RowKit Go.PlainAid

def special (c : Int) : Bool := c == 42 || c == 63 || c == 91 || c == 92
/-- The first k bytes, quoted. -/
def quoteTo (f : Nat → Int) : Nat → List Int
  | 0 => []
  | k + 1 => quoteTo f k ++ if special (f k) then [92, f k] else [f k]
theorem quoteTo_length (f : Nat → Int) (k : Nat) : (quoteTo f k).length ≤ 2 * k := by
  induction k with
  | zero => simp [quoteTo]
  | succ k ih => simp only [quoteTo, List.length_append]; split <;> simp <;> omega
theorem quote_yes {f : Nat → Int} {k : Nat} (h : special (f k) = true) : quoteTo f (k + 1) = quoteTo f k ++ [92, f k] := by simp [quoteTo, h]
theorem quote_no {f : Nat → Int} {k : Nat} (h : special (f k) = false) : quoteTo f (k + 1) = quoteTo f k ++ [f k] := by simp [quoteTo, h]
theorem special_cases (c : Int) : (special c = true ∧ (c = 42 ∨ c = 63 ∨ c = 91 ∨ c = 92)) ∨ (special c = false ∧ (c == 42) = false ∧ (c == 63) = false ∧ (c == 91) = false ∧ (c == 92) = false) := by
  by_cases h : c = 42 ∨ c = 63 ∨ c = 91 ∨ c = 92
  · left; refine ⟨?_, h⟩; simp [special]; omega
  · right; simp [special]; omega

def idx (c : Int) : Int := Lib.indexByte [42, 63, 91, 92] c.toNat.toUInt8
theorem idx_all : ∀ n : Nat, n < 256 → (0 ≤ Lib.indexByte [42, 63, 91, 92] n.toUInt8 ↔ special (n : Int) = true) := by decide +kernel
theorem idx_spec (c : Int) (h0 : 0 ≤ c) (h1 : c ≤ 255) : (0 ≤ idx c ↔ special c = true) := by
  obtain ⟨n, rfl⟩ := Int.eq_ofNat_of_zero_le h0
  exact idx_all n (by omega)

section
variable {P : Program}
theorem strOfNums_cat (xs : List Int) (b : ByteArray) (ys : List Int) (hb : b = strOfNums ys) (h : xs.length + ys.length ≤ 9223372036854775807) : ∀ W : World, (Op.stringOp .add (strOfNums xs) b).run P W = .ok (.string (strOfNums (xs ++ ys))) W := by
  subst hb; exact run_cat xs ys h
theorem extract_one (s : ByteArray) (k : Nat) (h : k < s.size) : s.extract k (k + 1) = strOfNums [bt s k] := by
  apply ByteArray.ext
  have e : s.data.size = s.size := rfl
  simp only [ByteArray.data_extract, strOfNums]
  apply Array.ext
  · simp; omega
  · intro i h1 h2
    have hi : i = 0 := by simp at h2; omega
    subst hi
    simp [bt, h]
    rfl
end
end Go.Proofs.Ytepibmfpmnkhiaa
