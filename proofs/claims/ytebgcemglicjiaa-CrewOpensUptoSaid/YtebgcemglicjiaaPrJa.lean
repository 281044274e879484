/- What press.Open answers, all of it: plain. -/
import Derived.Test.YtebgcemglicjiaaDcJa
import Derived.Test.YtebgcemglicjiaaPlJa
import Derived.Test.YtebgcemglicjiaaPlJb
/- What press.Open answers: plain. -/
namespace Go.Proofs.Ytebgcemglicjiaa
open Go.RowKit Go.PlainAid

/-- A text from place k on. -/
abbrev cutB (s : ByteArray) (k : Nat) : ByteArray := s.extract k s.size
/-- A number of at most 512 stands ahead. -/
def gOk (s : ByteArray) : Prop := getE (bt s) s.size = 0 ∧ getV (bt s) s.size ≤ 512
/-- A list of so many lengths that may be stands ahead. -/
def lnOk (s : ByteArray) (want : Nat) : Prop := rrE s = 0 ∧ (rrX s).length = want ∧ canE (rrX s) = 0
open Classical in
/-- k marks from place a on. -/
noncomputable def mkR (la lb : List Int) (s : ByteArray) : Nat → Nat → List Mark → Option (List Mark × Nat)
  | 0, a, L => some (L, a)
  | k + 1, a, L =>
    if (one la s a).2.2 = 0 then
      if (one la s a).1 < 256 then mkR la lb s k (one la s a).2.1.toNat (L ++ [⟨0, 0, (one la s a).1⟩])
      else if (one lb s (one la s a).2.1.toNat).2.2 = 0 ∧ (one lb s (one la s a).2.1.toNat).2.1 + (one lb s (one la s a).2.1.toNat).1 ≤ 8 * s.size then
        mkR la lb s k ((one lb s (one la s a).2.1.toNat).2.1.toNat + (one lb s (one la s a).2.1.toNat).1.toNat) (L ++ [⟨(one la s a).1 - 253, 2 ^ (one lb s (one la s a).2.1.toNat).1.toNat + tn s (one lb s (one la s a).2.1.toNat).2.1.toNat (one lb s (one la s a).2.1.toNat).1.toNat, 0⟩])
      else none
    else none
theorem mkR_bad {la lb : List Int} {s : ByteArray} {k a : Nat} {L : List Mark} {z : Int} (h : one la s a = (0, 0, z)) (hz : z ≠ 0) : mkR la lb s (k + 1) a L = none := by
  simp only [mkR]; rw [h]; rw [if_neg hz]
theorem mkR_byte {la lb : List Int} {s : ByteArray} {k a x a1 : Nat} {L : List Mark} (h : one la s a = ((x : Int), (a1 : Int), 0)) (hx : x < 256) : mkR la lb s (k + 1) a L = mkR la lb s k a1 (L ++ [⟨0, 0, x⟩]) := by
  simp only [mkR]; rw [h]; simp only [if_true]; rw [if_pos (by omega), Int.toNat_natCast]
theorem mkR_bad2 {la lb : List Int} {s : ByteArray} {k a x a1 : Nat} {L : List Mark} {z : Int} (h : one la s a = ((x : Int), (a1 : Int), 0)) (hx : ¬ x < 256) (h2 : one lb s a1 = (0, 0, z)) (hz : z ≠ 0) : mkR la lb s (k + 1) a L = none := by
  simp only [mkR]; rw [h]; simp only [if_true, Int.toNat_natCast]; rw [if_neg (by omega), h2]; rw [if_neg (fun k => hz k.1)]
theorem mkR_far {la lb : List Int} {s : ByteArray} {k a x a1 y a2 : Nat} {L : List Mark} (h : one la s a = ((x : Int), (a1 : Int), 0)) (hx : ¬ x < 256) (h2 : one lb s a1 = ((y : Int), (a2 : Int), 0)) (hf : 8 * s.size < a2 + y) : mkR la lb s (k + 1) a L = none := by
  simp only [mkR]; rw [h]; simp only [if_true, Int.toNat_natCast]; rw [if_neg (by omega), h2]; rw [if_neg (fun k => by have := k.2; simp only at this; omega)]
theorem mkR_copy {la lb : List Int} {s : ByteArray} {k a x a1 y a2 : Nat} {L : List Mark} (h : one la s a = ((x : Int), (a1 : Int), 0)) (hx : ¬ x < 256) (h2 : one lb s a1 = ((y : Int), (a2 : Int), 0)) (hf : ¬ 8 * s.size < a2 + y) : mkR la lb s (k + 1) a L = mkR la lb s k (a2 + y) (L ++ [⟨(x : Int) - 253, 2 ^ y + tn s a2 y, 0⟩]) := by
  simp only [mkR]; rw [h]; simp only [if_true, Int.toNat_natCast]; rw [if_neg (by omega), h2]; simp only [Int.toNat_natCast]; rw [if_pos ⟨trivial, by omega⟩]
/-- What is left may be: less than a byte, all nought. -/
def finOk (s : ByteArray) (a : Nat) : Prop := 8 * s.size - a < 8 ∧ tn s a (8 * s.size - a) = 0
open Classical in
noncomputable def marksR (s : ByteArray) (m : Nat) : Option (List Mark) :=
  if lnOk s 320 then
    if lnOk (cutB s (rrAt s).toNat) 9 then
      match mkR (rrX s) (rrX (cutB s (rrAt s).toNat)) (cutB (cutB s (rrAt s).toNat) (rrAt (cutB s (rrAt s).toNat)).toNat) m 0 [] with
      | none => none
      | some (L, a) => if finOk (cutB (cutB s (rrAt s).toNat) (rrAt (cutB s (rrAt s).toNat)).toNat) a then some L else none
    else none
  else none
theorem marksR_1 {s : ByteArray} {m : Nat} (h : ¬ lnOk s 320) : marksR s m = none := by unfold marksR; rw [if_neg h]
theorem marksR_2 {s s2 : ByteArray} {m : Nat} (h : lnOk s 320) (e2 : s2 = cutB s (rrAt s).toNat) (h2 : ¬ lnOk s2 9) : marksR s m = none := by
  subst e2; unfold marksR; rw [if_pos h, if_neg h2]
theorem marksR_3 {s s2 s3 : ByteArray} {m : Nat} (h : lnOk s 320) (e2 : s2 = cutB s (rrAt s).toNat) (h2 : lnOk s2 9) (e3 : s3 = cutB s2 (rrAt s2).toNat) (h3 : mkR (rrX s) (rrX s2) s3 m 0 [] = none) : marksR s m = none := by
  subst e2; subst e3; unfold marksR; rw [if_pos h, if_pos h2, h3]
theorem marksR_4 {s s2 s3 : ByteArray} {m a : Nat} {L : List Mark} (h : lnOk s 320) (e2 : s2 = cutB s (rrAt s).toNat) (h2 : lnOk s2 9) (e3 : s3 = cutB s2 (rrAt s2).toNat) (h3 : mkR (rrX s) (rrX s2) s3 m 0 [] = some (L, a)) (h4 : ¬ finOk s3 a) : marksR s m = none := by
  subst e2; subst e3; unfold marksR; rw [if_pos h, if_pos h2, h3]; simp only; rw [if_neg h4]
theorem marksR_5 {s s2 s3 : ByteArray} {m a : Nat} {L : List Mark} (h : lnOk s 320) (e2 : s2 = cutB s (rrAt s).toNat) (h2 : lnOk s2 9) (e3 : s3 = cutB s2 (rrAt s2).toNat) (h3 : mkR (rrX s) (rrX s2) s3 m 0 [] = some (L, a)) (h4 : finOk s3 a) : marksR s m = some L := by
  subst e2; subst e3; unfold marksR; rw [if_pos h, if_pos h2, h3]; simp only; rw [if_pos h4]
theorem rr_le (s : ByteArray) (k n : Nat) : ∀ f m, (rr s k n f m).2 ≤ m + f
  | 0, m => by unfold rr; split <;> exact Nat.le_refl _
  | f + 1, m => by
    rw [rr]
    split
    · exact Nat.le_add_right _ _
    · split
      · exact Nat.le_add_right _ _
      · have := rr_le s k n f (m + 1); omega
theorem rrAt_bd {s : ByteArray} (h : rrE s = 0) : 0 ≤ rrAt s ∧ rrAt s ≤ s.size := by
  have hg : getE (bt s) s.size = 0 := by
    by_cases e : getE (bt s) s.size = 0
    · exact e
    · have := (rr_get e).1; rw [h] at this; omega
  have h1 := get_end hg
  have h2 := rr_le s (getN (bt s) s.size).toNat (getV (bt s) s.size).toNat (s.size - (getN (bt s) s.size).toNat) 0
  unfold rrAt
  rw [if_pos h]
  have h3 : (rrR s).2 ≤ 0 + (s.size - (getN (bt s) s.size).toNat) := h2
  omega
end Go.Proofs.Ytebgcemglicjiaa

namespace Go.Proofs.Ytebgcemglicjiaa
open Go.RowKit Go.PlainAid

/-- n bytes, all nought. -/
def zt (n : Nat) : ByteArray := strOfNums (List.replicate n 0)
theorem zt_size (n : Nat) : (zt n).size = n := by unfold zt; rw [strOfNums_size, List.length_replicate]
/-- The number at the beginning of s; what stands behind it. -/
noncomputable def gV (s : ByteArray) : Nat := (getV (bt s) s.size).toNat
noncomputable def gR (s : ByteArray) : ByteArray := cutB s (getN (bt s) s.size).toNat
open Classical in
noncomputable def bodyR (k : Int) (n : Nat) (rest : ByteArray) : Option ByteArray :=
  if k = 0 then (if rest.size = 0 then some (zt n) else none)
  else if k = 1 then some rest
  else if k = 2 then (if gOk rest then (match marksR (gR rest) (gV rest) with | none => none | some L => if (expF [] L).2 = 0 then some (strOfNums (expF [] L).1) else none) else none)
  else none
open Classical in
noncomputable def opnR (t : ByteArray) : ByteArray × Int :=
  if t.size = 0 then (ByteArray.empty, 4) else
  if gOk (cutB t 1) then
    (match bodyR (bt t 0) (gV (cutB t 1)) (gR (cutB t 1)) with
    | none => (ByteArray.empty, 4)
    | some o => if o.size = gV (cutB t 1) then (o, 0) else (ByteArray.empty, 4))
  else (ByteArray.empty, 4)
theorem opn_empty {t : ByteArray} (h : t.size = 0) : opnR t = (ByteArray.empty, 4) := by unfold opnR; rw [if_pos h]
theorem opn_num {t : ByteArray} (h : t.size ≠ 0) (h1 : ¬ gOk (cutB t 1)) : opnR t = (ByteArray.empty, 4) := by unfold opnR; rw [if_neg h, if_neg h1]
theorem opn_none {t : ByteArray} (h : t.size ≠ 0) (h1 : gOk (cutB t 1)) (h2 : bodyR (bt t 0) (gV (cutB t 1)) (gR (cutB t 1)) = none) : opnR t = (ByteArray.empty, 4) := by unfold opnR; rw [if_neg h, if_pos h1, h2]
theorem opn_ok {t o : ByteArray} (h : t.size ≠ 0) (h1 : gOk (cutB t 1)) (h2 : bodyR (bt t 0) (gV (cutB t 1)) (gR (cutB t 1)) = some o) (h3 : o.size = gV (cutB t 1)) : opnR t = (o, 0) := by unfold opnR; rw [if_neg h, if_pos h1, h2]; simp only; rw [if_pos h3]
theorem opn_len {t o : ByteArray} (h : t.size ≠ 0) (h1 : gOk (cutB t 1)) (h2 : bodyR (bt t 0) (gV (cutB t 1)) (gR (cutB t 1)) = some o) (h3 : o.size ≠ gV (cutB t 1)) : opnR t = (ByteArray.empty, 4) := by unfold opnR; rw [if_neg h, if_pos h1, h2]; simp only; rw [if_neg h3]
theorem body_0 {n : Nat} {r : ByteArray} (h : r.size = 0) : bodyR 0 n r = some (zt n) := by unfold bodyR; rw [if_pos rfl, if_pos h]
theorem body_0n {n : Nat} {r : ByteArray} (h : r.size ≠ 0) : bodyR 0 n r = none := by unfold bodyR; rw [if_pos rfl, if_neg h]
theorem body_1 {n : Nat} {r : ByteArray} : bodyR 1 n r = some r := by unfold bodyR; rw [if_neg (by decide), if_pos rfl]
theorem body_2n {n : Nat} {r : ByteArray} (h : ¬ gOk r) : bodyR 2 n r = none := by unfold bodyR; rw [if_neg (by decide), if_neg (by decide), if_pos rfl, if_neg h]
theorem body_2m {n : Nat} {r : ByteArray} (h : gOk r) (h2 : marksR (gR r) (gV r) = none) : bodyR 2 n r = none := by unfold bodyR; rw [if_neg (by decide), if_neg (by decide), if_pos rfl, if_pos h, h2]
theorem body_2e {n : Nat} {r : ByteArray} {L : List Mark} (h : gOk r) (h2 : marksR (gR r) (gV r) = some L) (h3 : (expF [] L).2 ≠ 0) : bodyR 2 n r = none := by unfold bodyR; rw [if_neg (by decide), if_neg (by decide), if_pos rfl, if_pos h, h2]; simp only; rw [if_neg h3]
theorem body_2 {n : Nat} {r : ByteArray} {L : List Mark} (h : gOk r) (h2 : marksR (gR r) (gV r) = some L) (h3 : (expF [] L).2 = 0) : bodyR 2 n r = some (strOfNums (expF [] L).1) := by unfold bodyR; rw [if_neg (by decide), if_neg (by decide), if_pos rfl, if_pos h, h2]; simp only; rw [if_pos h3]
theorem body_no {k : Int} {n : Nat} {r : ByteArray} (h : 2 < k) : bodyR k n r = none := by unfold bodyR; rw [if_neg (by omega), if_neg (by omega), if_neg (by omega)]
theorem gV_eq {s : ByteArray} : getV (bt s) s.size = (gV s : Int) := by
  have : 0 ≤ getV (bt s) s.size := by unfold getV; split; exact (vsum_bd _ _).1; omega
  unfold gV; omega
theorem gV_le {s : ByteArray} (h : gOk s) : gV s ≤ 512 := by have h1 := h.2; rw [gV_eq] at h1; omega
theorem cutB_size (s : ByteArray) (k : Nat) : (cutB s k).size ≤ s.size := by simp [cutB, ByteArray.size_extract]
theorem gR_size (s : ByteArray) : (gR s).size ≤ s.size := cutB_size s _
theorem cut_cut (s : ByteArray) (a k : Nat) : cutB (cutB s a) k = s.extract (a + k) s.size := by
  apply ByteArray.ext
  simp only [cutB, ByteArray.data_extract, ByteArray.size_extract]
  rw [Array.extract_extract]
  congr 1
  omega
end Go.Proofs.Ytebgcemglicjiaa
