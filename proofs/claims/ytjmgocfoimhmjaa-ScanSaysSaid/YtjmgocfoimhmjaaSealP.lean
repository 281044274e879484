/- Seals: what they say: plain lists. -/
import Derived.Test.YtjmgocfoimhmjaaBtP
import Derived.Test.YtjmgocfoimhmjaaSumS
namespace Go.Proofs.Ytjmgocfoimhmjaa
open Go.RowKit Go.PlainAid

def sealE (k n : Int) (z : Nat) : Int := if (k ≠ 1 ∧ k ≠ 2) ∨ n < 0 ∨ 2147483647 < n then 1 else if 1000 < z then 2 else 0
theorem sealE_arg {k n : Int} {z : Nat} (h : (k ≠ 1 ∧ k ≠ 2) ∨ n < 0 ∨ 2147483647 < n) : sealE k n z = 1 := if_pos h
theorem sealE_large {k n : Int} {z : Nat} (h : ¬ ((k ≠ 1 ∧ k ≠ 2) ∨ n < 0 ∨ 2147483647 < n)) (h2 : 1000 < z) : sealE k n z = 2 := by unfold sealE; rw [if_neg h, if_pos h2]
theorem sealE_ok {k n : Int} {z : Nat} (h : ¬ ((k ≠ 1 ∧ k ≠ 2) ∨ n < 0 ∨ 2147483647 < n)) (h2 : ¬ 1000 < z) : sealE k n z = 0 := by unfold sealE; rw [if_neg h, if_neg h2]
theorem sealE_cases (k n : Int) (z : Nat) : sealE k n z = 0 ∨ sealE k n z = 1 ∨ sealE k n z = 2 := by
  unfold sealE; split; · exact .inr (.inl rfl)
  split; · exact .inr (.inr rfl)
  exact .inl rfl
theorem sealE_zero {k n : Int} {z : Nat} (h : sealE k n z = 0) : (k = 1 ∨ k = 2) ∧ 0 ≤ n ∧ n ≤ 2147483647 ∧ z ≤ 1000 := by
  unfold sealE at h
  split at h
  · cases h
  · split at h
    · cases h
    · omega
def sealH (k n : Int) (t : ByteArray) : List Int := fixL 1 k ++ fixL 4 n ++ fixL 2 t.size ++ btL t t.size
theorem sealH_length (k n : Int) (t : ByteArray) : (sealH k n t).length = 7 + t.size := by
  unfold sealH; simp only [List.length_append, fixL_length, btL_length]
def sumV (s : ByteArray) : Int := v32 (moreF 0#32 s)
theorem sumV_bd (s : ByteArray) : 0 ≤ sumV s ∧ sumV s ≤ 4294967295 := v32_bd _
def tail4 (c : Int) : List Int := [c % 256, c / 256 % 256, c / 65536 % 256, c / 16777216 % 256]
theorem fix4_tail (c : Int) : (fixL 4 c).reverse = tail4 c := by
  simp only [fixL, tail4]
  simp only [Int.reducePow, List.reverse_cons, List.reverse_nil, List.nil_append, List.cons_append, List.cons.injEq, and_true]
  omega
def sealS (k n : Int) (t : ByteArray) : List Int := if sealE k n t.size = 0 then sealH k n t ++ tail4 (sumV (strOfNums (sealH k n t))) else []
theorem sealS_ok {k n : Int} {t : ByteArray} (h : sealE k n t.size = 0) : sealS k n t = sealH k n t ++ tail4 (sumV (strOfNums (sealH k n t))) := if_pos h
theorem sealS_no {k n : Int} {t : ByteArray} (h : sealE k n t.size ≠ 0) : sealS k n t = [] := if_neg h
end Go.Proofs.Ytjmgocfoimhmjaa
