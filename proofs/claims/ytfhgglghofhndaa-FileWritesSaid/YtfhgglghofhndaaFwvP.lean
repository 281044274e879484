/- The parts of a file while a text is written into it, cluster by cluster: plain. -/
import Derived.Test.YtfhgglghofhndaaFwrP
namespace Go.Proofs.Ytfhgglghofhndaa
open Go.RowKit Go.PlainAid

/-- The parts behind d bytes of the text. -/
def wrD (ps : List ByteArray) (O : List UInt8) (z a d : Nat) : List ByteArray := if d = 0 then cutL ps z else wrL ps O z a d
theorem wrL_len (ps : List ByteArray) (O : List UInt8) (z a d : Nat) : (wrL ps O z a d).length = npt z := by unfold wrL; simp
theorem wrL_get {ps : List ByteArray} {O : List UInt8} {z a d i : Nat} (h : i < npt z) : (wrL ps O z a d)[i]? = some (wrAt ps O z a d i) := by
  unfold wrL; rw [List.getElem?_map, List.getElem?_range h]; rfl
theorem wrD_len (ps : List ByteArray) (O : List UInt8) (z a d : Nat) : (wrD ps O z a d).length = npt z := by
  unfold wrD; split
  · exact cutL_len _ _
  · exact wrL_len _ _ _ _ _
theorem wrD_get {ps : List ByteArray} {O : List UInt8} {z a d i : Nat} (h : i < npt z) : (wrD ps O z a d)[i]? = some (if d ≠ 0 ∧ hitP a d i = true then mkS (seg O z i) else cutAt ps z i) := by
  unfold wrD
  by_cases hd : d = 0
  · rw [if_pos hd, if_neg (by omega), cutL_get h]
  · rw [if_neg hd, wrL_get h]
    unfold wrAt
    by_cases hh : hitP a d i = true
    · rw [if_pos hh, if_pos ⟨hd, hh⟩]
    · rw [if_neg hh, if_neg (fun x => hh x.2)]
theorem hit_iff {a d i : Nat} : hitP a d i = true ↔ (512 * i < a + d ∧ a < 512 * i + 512) := by unfold hitP; simp
/-- The part that is next is as it was. -/
theorem wrD_next {ps : List ByteArray} {O : List UInt8} {z a d : Nat} (h : (a + d) / 512 < npt z) (h0 : d = 0 ∨ (a + d) % 512 = 0) : (wrD ps O z a d)[(a + d) / 512]? = some (cutAt ps z ((a + d) / 512)) := by
  rw [wrD_get h, if_neg]
  rintro ⟨hd, hh⟩
  rw [hit_iff] at hh
  omega
/-- The part laid, one step on. -/
theorem wrD_step {ps : List ByteArray} {O : List UInt8} {z a d n : Nat} (hn : 0 < n) (hk : (a + d) % 512 + n ≤ 512) (h0 : d = 0 ∨ (a + d) % 512 = 0) :
    (wrD ps O z a d).set ((a + d) / 512) (mkS (seg O z ((a + d) / 512))) = wrD ps O z a (d + n) := by
  apply List.ext_getElem?
  intro i
  rw [List.getElem?_set, wrD_len]
  by_cases hi : i < npt z
  · rw [wrD_get hi, wrD_get hi]
    by_cases he : (a + d) / 512 = i
    · rw [if_pos he, if_pos (by omega), if_pos ⟨by omega, hit_iff.2 (by omega)⟩, he]
    · rw [if_neg he]
      by_cases hd : d = 0
      · rw [if_neg (by omega), if_neg]
        rintro ⟨_, hh⟩
        rw [hit_iff] at hh
        omega
      · by_cases hh : hitP a d i = true
        · have := hit_iff.1 hh
          rw [if_pos ⟨hd, hh⟩, if_pos ⟨by omega, hit_iff.2 (by omega)⟩]
        · rw [if_neg (fun x => hh x.2), if_neg]
          rintro ⟨_, h2⟩
          rw [hit_iff] at h2 hh
          omega
  · rw [List.getElem?_eq_none (by rw [wrD_len]; omega), List.getElem?_eq_none (by rw [wrD_len]; omega)]
    split
    · rw [if_neg (by omega)]
    · rfl
/-- What the two copies lay. -/
theorem wr_laid {sz z a d n k : Nat} {ps : List ByteArray} {T : List UInt8} (h : PartsOk sz ps) (hz : z = max sz (a + T.length)) (hd : d < T.length) (hk : k = (a + d) % 512) (hn : n = min (T.length - d) (512 - k)) (h0 : k = 0 ∨ d = 0) :
    ovl (bl (cutAt ps z ((a + d) / 512)) ++ zer (wid z ((a + d) / 512) - (cutAt ps z ((a + d) / 512)).size)) k ((T.drop d).take n) = seg (ovl (szd (whB sz 0 ps) z) a T) z ((a + d) / 512) := by
  rw [← seg_base h (by omega)]
  exact (seg_ovl (szd_len _ _) (by omega) (by omega) (by omega) (by omega) hn h0 (by unfold wid; omega)).symm
theorem wr_fits {z a L d k n : Nat} (hz : a + L ≤ z) (hd : d < L) (hk : k = (a + d) % 512) (hn : n = min (L - d) (512 - k)) : (a + d) / 512 < npt z ∧ k + n ≤ wid z ((a + d) / 512) ∧ 0 < n := by
  unfold wid npt; omega
end Go.Proofs.Ytfhgglghofhndaa
