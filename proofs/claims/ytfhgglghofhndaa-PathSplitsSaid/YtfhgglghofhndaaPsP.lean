/- A path split into its names: plain. -/
import Derived.Test.YtfhgglghofhndaaDirP
import Derived.Lib.Bytealg
namespace Go.Proofs.Ytfhgglghofhndaa
open Go.RowKit Go.PlainAid

/-- The pieces between slashes that are not empty; acc: what has come of the first. -/
def pcs : List UInt8 → List UInt8 → List ByteArray
  | acc, [] => if acc = [] then [] else [mkS acc]
  | acc, c :: r => if c = 47 then (if acc = [] then pcs [] r else mkS acc :: pcs [] r) else pcs (acc ++ [c]) r
/-- The names that the pieces give. -/
noncomputable def pGo (out : List ByteArray) : List ByteArray → Int × List ByteArray
  | [] => (0, out)
  | p :: r => if p = ⟨#[46]⟩ then pGo out r else if p = ⟨#[46, 46]⟩ then pGo out.dropLast r else if nameE p ≠ 0 then (11, []) else if 8 ≤ out.length then (2, []) else pGo (out ++ [p]) r
noncomputable def psV (s : ByteArray) : Int × List ByteArray := if 200 < s.size then (2, []) else if s.size = 0 ∨ bt s 0 ≠ 47 then (11, []) else pGo [] (pcs [] ((bl s).drop 1))
theorem ps_large {s : ByteArray} (h : 200 < s.size) : psV s = (2, []) := if_pos h
theorem ps_name {s : ByteArray} (h : ¬ 200 < s.size) (h2 : s.size = 0 ∨ bt s 0 ≠ 47) : psV s = (11, []) := by unfold psV; rw [if_neg h, if_pos h2]
theorem ps_go {s : ByteArray} (h : ¬ 200 < s.size) (h1 : s.size ≠ 0) (h2 : bt s 0 = 47) : psV s = pGo [] (pcs [] ((bl s).drop 1)) := by
  unfold psV; rw [if_neg h, if_neg (by rintro (h | h); exact h1 h; exact h h2)]
theorem pgo_dot {out r : List ByteArray} : pGo out (⟨#[46]⟩ :: r) = pGo out r := by rw [pGo, if_pos rfl]
theorem pgo_up {out r : List ByteArray} : pGo out (⟨#[46, 46]⟩ :: r) = pGo out.dropLast r := by rw [pGo, if_neg (by intro h; cases h), if_pos rfl]
theorem pgo_bad {out r : List ByteArray} {p : ByteArray} (h1 : p ≠ ⟨#[46]⟩) (h2 : p ≠ ⟨#[46, 46]⟩) (h : nameE p ≠ 0) : pGo out (p :: r) = (11, []) := by rw [pGo, if_neg h1, if_neg h2, if_pos h]
theorem pgo_full {out r : List ByteArray} {p : ByteArray} (h1 : p ≠ ⟨#[46]⟩) (h2 : p ≠ ⟨#[46, 46]⟩) (h : nameE p = 0) (hl : 8 ≤ out.length) : pGo out (p :: r) = (2, []) := by rw [pGo, if_neg h1, if_neg h2, if_neg (by rw [h]; decide), if_pos hl]
theorem pgo_add {out r : List ByteArray} {p : ByteArray} (h1 : p ≠ ⟨#[46]⟩) (h2 : p ≠ ⟨#[46, 46]⟩) (h : nameE p = 0) (hl : ¬ 8 ≤ out.length) : pGo out (p :: r) = pGo (out ++ [p]) r := by rw [pGo, if_neg h1, if_neg h2, if_neg (by rw [h]; decide), if_neg hl]
theorem pcs_end {acc : List UInt8} (h : acc ≠ []) : pcs acc [] = [mkS acc] := by rw [pcs, if_neg h]
theorem pcs_nil : pcs [] [] = [] := by rw [pcs, if_pos rfl]
theorem pcs_slash {r : List UInt8} : pcs [] (47 :: r) = pcs [] r := by rw [pcs, if_pos rfl, if_pos rfl]
theorem pcs_cut {acc r : List UInt8} (h : acc ≠ []) : pcs acc (47 :: r) = mkS acc :: pcs [] r := by rw [pcs, if_pos rfl, if_neg h]
theorem pcs_more {acc r : List UInt8} {c : UInt8} (h : c ≠ 47) : pcs acc (c :: r) = pcs (acc ++ [c]) r := by rw [pcs, if_neg h]
/-- Up to the next slash. -/
theorem pcs_find : ∀ (l acc : List UInt8), pcs acc l = if 0 ≤ Lib.indexByte l 47 then (if acc ++ l.take (Lib.indexByte l 47).toNat = [] then pcs [] (l.drop ((Lib.indexByte l 47).toNat + 1)) else mkS (acc ++ l.take (Lib.indexByte l 47).toNat) :: pcs [] (l.drop ((Lib.indexByte l 47).toNat + 1))) else (if acc ++ l = [] then [] else [mkS (acc ++ l)])
  | [], acc => by simp [pcs, Lib.indexByte]
  | c :: r, acc => by
    by_cases h : c = 47
    · subst h
      have e : Lib.indexByte (47 :: r) 47 = 0 := by simp [Lib.indexByte]
      rw [e, if_pos (by decide), pcs, if_pos rfl]
      simp
    · have ih := pcs_find r (acc ++ [c])
      have hc : (c == 47) = false := beq_eq_false_iff_ne.2 h
      have hg : -1 ≤ Lib.indexByte r 47 := by
        clear ih
        induction r with
        | nil => simp [Lib.indexByte]
        | cons d r ih => unfold Lib.indexByte; split; omega; split; omega; omega
      rw [pcs_more h, ih]
      have e : Lib.indexByte (c :: r) 47 = if Lib.indexByte r 47 == -1 then -1 else Lib.indexByte r 47 + 1 := by simp [Lib.indexByte, hc]
      by_cases hm : Lib.indexByte r 47 = -1
      · rw [e, hm]
        simp
      · have h0 : 0 ≤ Lib.indexByte r 47 := by omega
        have e2 : Lib.indexByte (c :: r) 47 = Lib.indexByte r 47 + 1 := by rw [e, if_neg (by simpa using hm)]
        rw [if_pos h0, e2, if_pos (show (0 : Int) ≤ Lib.indexByte r 47 + 1 by omega)]
        obtain ⟨k, hk⟩ : ∃ k : Nat, Lib.indexByte r 47 = (k : Int) := ⟨(Lib.indexByte r 47).toNat, by omega⟩
        rw [hk]
        have e3 : ((k : Int) + 1).toNat = k + 1 := by omega
        rw [e3, Int.toNat_natCast]
        simp
end Go.Proofs.Ytfhgglghofhndaa
