/- A file of another size: plain. -/
import Derived.Test.YtfhgglghofhndaaFileP
namespace Go.Proofs.Ytfhgglghofhndaa
open Go.RowKit Go.PlainAid

/-- Part i of the file behind a cut to size: of p it was. -/
def cutPt (size i : Nat) (p : ByteArray) : ByteArray := if p.size = 0 then mkS [] else mkS ((bl p).take (wid size i) ++ zer (wid size i - p.size))
def cutAt (ps : List ByteArray) (size i : Nat) : ByteArray := match ps[i]? with
  | none => mkS []
  | some p => cutPt size i p
def cutL (ps : List ByteArray) (size : Nat) : List ByteArray := (List.range (npt size)).map (cutAt ps size)
/-- A text of so many bytes. -/
def szd (W : List UInt8) (size : Nat) : List UInt8 := W.take size ++ zer (size - W.length)

theorem whB_drop {sz : Nat} : ∀ (i k : Nat) (ps : List ByteArray), (∀ j p, ps[j]? = some p → PartOk sz (k + j) p) → k + ps.length = npt sz → i ≤ ps.length → i = 0 ∨ k + i ≤ npt sz → (whB sz k ps).drop (512 * i) = whB sz (k + i) (ps.drop i)
  | 0, k, ps, _, _, _, _ => by simp
  | i + 1, k, [], _, _, hi, _ => by simp at hi
  | i + 1, k, p :: ps, hp, hl, hi, _ => by
    have h1 := ptB_len (hp 0 p rfl)
    rw [Nat.add_zero] at h1
    simp only [List.length_cons] at hl hi
    have ih := whB_drop i (k + 1) ps (fun j q hq => by have := hp (j + 1) q (by simpa using hq); rwa [show k + (j + 1) = k + 1 + j by omega] at this) (by omega) (by omega) (by omega)
    simp only [whB, List.drop_succ_cons]
    rw [show k + (i + 1) = k + 1 + i by omega, ← ih]
    by_cases hw : wid sz k = 512
    · rw [List.drop_append, h1, hw, show 512 * (i + 1) - 512 = 512 * i by omega, List.drop_of_length_le (by rw [h1, hw]; omega), List.nil_append]
    · -- a short part is the last
      have hlast : ps.length = 0 := by unfold wid npt at *; omega
      have : ps = [] := List.eq_nil_of_length_eq_zero hlast
      subst this
      have hi0 : i = 0 := by simp at hi; exact hi
      subst hi0
      simp only [whB, List.drop_nil, List.append_nil]
      rw [List.drop_of_length_le (by rw [h1]; have := wid_le sz k; omega)]
theorem whole_drop {sz i : Nat} {ps : List ByteArray} {p : ByteArray} (h : PartsOk sz ps) (hp : ps[i]? = some p) (h0 : p.size ≠ 0) : ∃ rest, (whB sz 0 ps).drop (512 * i) = bl p ++ rest ∧ rest.length = sz - 512 * (i + 1) ∧ p.size = wid sz i := by
  obtain ⟨hi, he⟩ := List.getElem?_eq_some_iff.1 hp
  have hs : p.size = wid sz i := (h.2 i p hp).resolve_left h0
  have hd := whB_drop (sz := sz) i 0 ps (fun j q hq => by rw [Nat.zero_add]; exact h.2 j q hq) (by rw [Nat.zero_add]; exact h.1) (by omega) (.inr (by rw [Nat.zero_add]; have := h.1; omega))
  rw [Nat.zero_add, List.drop_eq_getElem_cons hi, he] at hd
  simp only [whB] at hd
  refine ⟨whB sz (i + 1) (ps.drop (i + 1)), ?_, ?_, hs⟩
  · rw [hd]; unfold ptB; rw [if_neg h0]
  · exact whB_len (fun j q hq => by
      rw [List.getElem?_drop] at hq
      exact h.2 _ q hq) (by rw [List.length_drop]; have := h.1; omega)
/-- What the document says of part i is what the code lays. -/
theorem cut_part {sz size i : Nat} {ps : List ByteArray} {p : ByteArray} (h : PartsOk sz ps) (hp : ps[i]? = some p) (h0 : p.size ≠ 0) : ((szd (whB sz 0 ps) size).drop (512 * i)).take (wid size i) = (bl p).take (wid size i) ++ zer (wid size i - p.size) := by
  obtain ⟨rest, hd, hr, hs⟩ := whole_drop h hp h0
  have hW := whole_len h
  have hb := bl_len p
  unfold szd
  rw [hW]
  rcases Nat.le_total size sz with hle | hge
  · rw [show size - sz = 0 by omega]
    simp only [zer, List.replicate_zero, List.append_nil]
    rw [List.drop_take, hd, List.take_take, show min (wid size i) (size - 512 * i) = wid size i by unfold wid; omega]
    have h1 : wid size i ≤ p.size := by rw [hs]; unfold wid; omega
    rw [List.take_append_of_le_length (by rw [hb]; exact h1), show wid size i - p.size = 0 by omega]
    simp
  · have hT : (whB sz 0 ps).take size = whB sz 0 ps := List.take_of_length_le (by omega)
    rw [hT, List.drop_append, hd, hW]
    have hi : 512 * i < sz := by rw [hs] at h0; unfold wid at h0; omega
    rw [show 512 * i - sz = 0 by omega, List.drop_zero]
    by_cases hf : p.size = 512
    · have hn : wid size i = 512 := by rw [hs] at hf; unfold wid at *; omega
      rw [hn, List.append_assoc, List.take_append_of_le_length (by rw [hb]; omega), show 512 - p.size = 0 by omega]
      simp [zer]
    · have hr0 : rest = [] := List.eq_nil_of_length_eq_zero (by rw [hr]; rw [hs] at hf; unfold wid at hf; omega)
      subst hr0
      have hpl : p.size = sz - 512 * i := by rw [hs] at hf ⊢; unfold wid at *; omega
      have hn : p.size ≤ wid size i := by unfold wid; rw [hs] at hf; unfold wid at hf; omega
      rw [List.append_nil, List.take_append, hb]
      congr 1
      unfold zer
      rw [List.take_replicate]
      congr 1
      unfold wid at *
      omega
theorem cutL_len (ps : List ByteArray) (size : Nat) : (cutL ps size).length = npt size := by simp [cutL]
theorem cutL_get {ps : List ByteArray} {size i : Nat} (h : i < npt size) : (cutL ps size)[i]? = some (cutAt ps size i) := by simp [cutL, List.getElem?_range h]
end Go.Proofs.Ytfhgglghofhndaa
