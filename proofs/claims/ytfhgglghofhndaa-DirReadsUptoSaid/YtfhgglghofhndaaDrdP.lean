/- A directory read from its text: plain. -/
import Derived.Test.YtfhgglghofhndaaDtxP
namespace Go.Proofs.Ytfhgglghofhndaa
open Go.RowKit Go.PlainAid

/-- The entry that begins at place p. -/
def entAt (s : ByteArray) (p : Nat) : EntD := ⟨s.extract (p + 1) (p + 1 + (bt s p).toNat), bt s (p + 1 + (bt s p).toNat)⟩
def rdL (s : ByteArray) (p : Nat) : Option (List EntD) :=
  if s.size ≤ p then some [] else if s.size ≤ p + (bt s p).toNat + 1 then none else (rdL s (p + (bt s p).toNat + 2)).map (entAt s p :: ·)
termination_by s.size - p
theorem rd_end {s : ByteArray} {p : Nat} (h : s.size ≤ p) : rdL s p = some [] := by rw [rdL, if_pos h]
theorem rd_none {s : ByteArray} {p : Nat} (h : p < s.size) (h2 : s.size ≤ p + (bt s p).toNat + 1) : rdL s p = none := by rw [rdL, if_neg (by omega), if_pos h2]
theorem rd_some {s : ByteArray} {p : Nat} (h2 : p + (bt s p).toNat + 1 < s.size) : rdL s p = (rdL s (p + (bt s p).toNat + 2)).map (entAt s p :: ·) := by
  rw [rdL, if_neg (by omega), if_neg (by omega)]
noncomputable def rdE (s : ByteArray) : Int := match rdL s 0 with | none => 4 | some L => if dirE L = 0 then 0 else 4
noncomputable def rdR (s : ByteArray) : List EntD := match rdL s 0 with | none => [] | some L => if dirE L = 0 then L else []
theorem rdv_none {s : ByteArray} (h : rdL s 0 = none) : rdE s = 4 ∧ rdR s = [] := by unfold rdE rdR; rw [h]; exact ⟨rfl, rfl⟩
theorem rdv_bad {s : ByteArray} {L : List EntD} (h : rdL s 0 = some L) (hd : dirE L ≠ 0) : rdE s = 4 ∧ rdR s = [] := by unfold rdE rdR; rw [h]; simp only [if_neg hd]; exact ⟨trivial, trivial⟩
theorem rdv_ok {s : ByteArray} {L : List EntD} (h : rdL s 0 = some L) (hd : dirE L = 0) : rdE s = 0 ∧ rdR s = L := by unfold rdE rdR; rw [h]; simp only [if_pos hd]; exact ⟨trivial, trivial⟩
theorem seg3 (l : List UInt8) (p n : Nat) (h : p + n + 1 < l.length) : l.take (p + n + 2) = l.take p ++ (l[p]'(by omega) :: ((l.drop (p + 1)).take n ++ [l[p + 1 + n]'(by omega)])) := by
  have e1 : l.take (p + n + 2) = l.take p ++ (l.drop p).take (n + 2) := by
    rw [show p + n + 2 = p + (n + 2) by omega, List.take_add]
  have e2 : (l.drop (p + 1)).take (n + 1) = (l.drop (p + 1)).take n ++ [l[p + 1 + n]'(by omega)] := by
    rw [List.take_succ_eq_append_getElem (by rw [List.length_drop]; omega), List.getElem_drop]
  rw [e1, List.drop_eq_getElem_cons (show p < l.length by omega), List.take_succ_cons, e2]
theorem ofNat_bt {s : ByteArray} {k : Nat} (h : k < s.size) : UInt8.ofNat (bt s k).toNat = (bl s)[k]'(by rw [bl_len]; exact h) := by
  have e : (bt s k).toNat = (s[k]'h).toNat := by rw [← get_bt s k h]; omega
  rw [e, UInt8.ofNat_toNat]; rfl
/-- How far reading has come: place p, entries L. -/
structure RdL (s : ByteArray) (p : Nat) (L : List EntD) : Prop where
  par : rdL s 0 = (rdL s p).map (L ++ ·)
  pre : dirB L = (bl s).take p
  le : p ≤ s.size
  cnt : L.length ≤ p
theorem rdL_zero (s : ByteArray) : RdL s 0 [] := ⟨by cases rdL s 0 <;> simp, by simp [dirB], Nat.zero_le _, Nat.zero_le _⟩
theorem RdL.step {s : ByteArray} {p n : Nat} {L : List EntD} (h : RdL s p L) (hn : bt s p = (n : Int)) (h2 : p + n + 1 < s.size) : RdL s (p + n + 2) (L ++ [⟨s.extract (p + 1) (p + 1 + n), bt s (p + 1 + n)⟩]) := by
  have hz : (bt s p).toNat = n := by omega
  have he : entAt s p = ⟨s.extract (p + 1) (p + 1 + n), bt s (p + 1 + n)⟩ := by unfold entAt; rw [hz]
  refine ⟨?_, ?_, by omega, by have := h.cnt; simp; omega⟩
  · rw [h.par, rd_some (by rw [hz]; exact h2), hz, he]
    cases rdL s (p + n + 2) <;> simp
  · have hl : (s.extract (p + 1) (p + 1 + n)).size = n := by rw [ByteArray.size_extract]; omega
    unfold dirB
    rw [List.flatMap_append]
    have := h.pre
    unfold dirB at this
    rw [this, seg3 (bl s) p n (by rw [bl_len]; omega)]
    simp only [List.flatMap_cons, List.flatMap_nil, List.append_nil, entB]
    congr 1
    rw [hl, ← ofNat_bt (show p < s.size by omega), hz, ← ofNat_bt (show p + 1 + n < s.size by omega), ext_mk, bl_mk, show p + 1 + n - (p + 1) = n by omega]
theorem RdL.none {s : ByteArray} {p n : Nat} {L : List EntD} (h : RdL s p L) (hp : p < s.size) (hn : bt s p = (n : Int)) (h2 : s.size ≤ p + n + 1) : rdE s = 4 ∧ rdR s = [] := by
  refine rdv_none ?_
  rw [h.par, rd_none hp (by omega)]; rfl
theorem RdL.last {s : ByteArray} {L : List EntD} (h : RdL s s.size L) : rdL s 0 = some L ∧ dirB L = bl s := by
  refine ⟨?_, ?_⟩
  · rw [h.par, rd_end (Nat.le_refl _)]; simp
  · rw [h.pre, List.take_of_length_le (by rw [bl_len]; exact Nat.le_refl _)]
end Go.Proofs.Ytfhgglghofhndaa
