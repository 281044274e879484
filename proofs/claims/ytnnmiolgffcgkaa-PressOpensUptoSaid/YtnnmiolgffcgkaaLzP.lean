/- Marks and what they expand to: plain lists of bytes. -/
import Derived.Test.YtnnmiolgffcgkaaTypes
import Derived.Laws.BytesArg
namespace Go.Proofs.Ytnnmiolgffcgkaa
open Go.RowKit

def Mark.isByte (m : Mark) : Prop := m.Len = 0 ∧ m.Dist = 0
def Mark.isCopy (m : Mark) : Prop := 3 ≤ m.Len ∧ m.Len ≤ 66 ∧ 1 ≤ m.Dist ∧ m.Byte = 0
instance (m : Mark) : Decidable m.isByte := by unfold Mark.isByte; exact inferInstance
instance (m : Mark) : Decidable m.isCopy := by unfold Mark.isCopy; exact inferInstance
def markE (m : Mark) : Int := if m.isByte ∨ m.isCopy then 0 else 4
/-- The first n bytes of what lies 'dist' back, over and over. -/
def copied (out : List Int) (dist n : Nat) : List Int := (List.range n).map fun i => out.getD (out.length - dist + i % dist) 0
def more (out : List Int) (m : Mark) : List Int := if m.Len = 0 then [m.Byte] else copied out m.Dist.toNat m.Len.toNat
/-- What a list of marks appends to 'out', and what is wrong with it. -/
def expF (out : List Int) : List Mark → List Int × Int
  | [] => (out, 0)
  | m :: r => if markE m ≠ 0 then ([], markE m) else if out.length < m.Dist then ([], 8) else if 512 < out.length + (more out m).length then ([], 2) else expF (out ++ more out m) r
theorem copied_length (out : List Int) (d n : Nat) : (copied out d n).length = n := by simp [copied]
theorem copied_succ (out : List Int) (d n : Nat) : copied out d (n + 1) = copied out d n ++ [out.getD (out.length - d + n % d) 0] := by
  simp [copied, List.range_succ]
/-- The code's way: each further byte is the one 'dist' back in all that there is by then. -/
theorem copied_back (out : List Int) (d n : Nat) (h0 : 0 < d) (hd : d ≤ out.length) : (out ++ copied out d n)[out.length + n - d]? = some (out.getD (out.length - d + n % d) 0) := by
  by_cases h : n < d
  · rw [Nat.mod_eq_of_lt h, List.getElem?_append_left (by omega), show out.length + n - d = out.length - d + n by omega, List.getD_eq_getElem?_getD]
    rw [List.getElem?_eq_getElem (by omega)]; rfl
  · rw [List.getElem?_append_right (by omega), show out.length + n - d - out.length = n - d by omega]
    simp only [copied, List.getElem?_map]
    rw [List.getElem?_range (by omega)]
    simp only [Option.map_some]
    rw [show n % d = (n - d) % d by rw [← Nat.mod_eq_sub_mod (by omega)]]
theorem expF_dist {O : List Int} {m : Mark} {r : List Mark} (h : markE m = 0) (hd : O.length < m.Dist) : expF O (m :: r) = ([], 8) := by
  rw [expF, if_neg (by omega), if_pos hd]
theorem expF_large {O : List Int} {m : Mark} {r : List Mark} (h : markE m = 0) (hd : ¬ (O.length : Int) < m.Dist) (hl : 512 < O.length + (more O m).length) : expF O (m :: r) = ([], 2) := by
  rw [expF, if_neg (by omega), if_neg hd, if_pos hl]
theorem expF_go {O : List Int} {m : Mark} {r : List Mark} (h : markE m = 0) (hd : ¬ (O.length : Int) < m.Dist) (hl : ¬ 512 < O.length + (more O m).length) : expF O (m :: r) = expF (O ++ more O m) r := by
  rw [expF, if_neg (by omega), if_neg hd, if_neg hl]
theorem more_byte (O : List Int) (d b : Int) : more O ⟨0, d, b⟩ = [b] := by simp [more]
theorem more_copy (O : List Int) (a d b : Int) (h : a ≠ 0) : more O ⟨a, d, b⟩ = copied O d.toNat a.toNat := by simp [more, h]
theorem mark_cases {a d b : Int} (h : markE ⟨a, d, b⟩ = 0) : (a = 0 ∧ d = 0) ∨ (3 ≤ a ∧ a ≤ 66 ∧ 1 ≤ d ∧ b = 0) := by
  by_cases c : (Mark.mk a d b).isByte ∨ (Mark.mk a d b).isCopy
  · exact c
  · unfold markE at h; rw [if_neg c] at h; simp at h
end Go.Proofs.Ytnnmiolgffcgkaa
