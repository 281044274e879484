/- What is in a file: plain lists of bytes. -/
import Derived.Test.YtnnmiolgffcgkaaTypes
import Derived.PlainAid
namespace Go.Proofs.Ytnnmiolgffcgkaa
open Go.RowKit Go.PlainAid

/-- A string's bytes, and back. -/
def bl (s : ByteArray) : List UInt8 := s.data.toList
def mkS (l : List UInt8) : ByteArray := ⟨⟨l⟩⟩
theorem mk_bl (s : ByteArray) : mkS (bl s) = s := rfl
theorem bl_mk (l : List UInt8) : bl (mkS l) = l := rfl
theorem mk_size (l : List UInt8) : (mkS l).size = l.length := rfl
theorem bl_len (s : ByteArray) : (bl s).length = s.size := rfl
theorem mk_append (l m : List UInt8) : mkS l ++ mkS m = mkS (l ++ m) := by
  apply ByteArray.ext; simp [mkS, ByteArray.data_append]
theorem mk_cat (l : List UInt8) (s : ByteArray) : mkS l ++ s = mkS (l ++ bl s) := by rw [← mk_append, mk_bl]
theorem mk_inj {l m : List UInt8} (h : mkS l = mkS m) : l = m := by have := congrArg bl h; simpa [bl_mk] using this
theorem mk_extract (l : List UInt8) (i j : Nat) : (mkS l).extract i j = mkS ((l.drop i).take (j - i)) := by
  apply ByteArray.ext
  apply Array.ext'
  simp [mkS, ByteArray.data_extract, List.extract_eq_take_drop]
theorem ext_mk (s : ByteArray) (i j : Nat) : s.extract i j = mkS (((bl s).drop i).take (j - i)) := by conv => lhs; rw [← mk_bl s]; rw [mk_extract]
theorem size_zero {s : ByteArray} (h : s.size = 0) : s = mkS [] := by
  rw [← mk_bl s]; have : bl s = [] := List.eq_nil_of_length_eq_zero h; rw [this]

/-- Width of part i of a file of sz bytes. -/
def wid (sz i : Nat) : Nat := min 512 (sz - 512 * i)
def npt (sz : Nat) : Nat := (sz + 511) / 512
def zer (n : Nat) : List UInt8 := List.replicate n 0
theorem zer_len (n : Nat) : (zer n).length = n := by simp [zer]
theorem wid_le (sz i : Nat) : wid sz i ≤ 512 := by unfold wid; omega
theorem wid_pos {sz i : Nat} (h : i < npt sz) : 0 < wid sz i := by unfold wid npt at *; omega
def PartOk (sz i : Nat) (p : ByteArray) : Prop := p.size = 0 ∨ p.size = wid sz i
def PartsOk (sz : Nat) (ps : List ByteArray) : Prop := ps.length = npt sz ∧ ∀ i p, ps[i]? = some p → PartOk sz i p
open Classical in
noncomputable def datE (sz : Int) (ps : List ByteArray) : Int := if sz < 0 ∨ 4096 < sz then 2 else if PartsOk sz.toNat ps then 0 else 4
/-- The bytes of a part. -/
def ptB (sz i : Nat) (p : ByteArray) : List UInt8 := if p.size = 0 then zer (wid sz i) else bl p
def whB (sz : Nat) : Nat → List ByteArray → List UInt8
  | _, [] => []
  | i, p :: ps => ptB sz i p ++ whB sz (i + 1) ps
theorem ptB_len {sz i : Nat} {p : ByteArray} (h : PartOk sz i p) : (ptB sz i p).length = wid sz i := by
  unfold ptB
  split
  · exact zer_len _
  · rename_i h0; rcases h with h | h
    · exact absurd h h0
    · rw [bl_len]; exact h
theorem whB_len {sz : Nat} : ∀ {i : Nat} {ps : List ByteArray}, (∀ j p, ps[j]? = some p → PartOk sz (i + j) p) → i + ps.length = npt sz → (whB sz i ps).length = sz - 512 * i
  | i, [], _, h => by simp [whB, npt] at *; omega
  | i, p :: ps, hp, h => by
    have h1 := ptB_len (hp 0 p rfl)
    have h2 := whB_len (i := i + 1) (ps := ps) (fun j q hq => by have := hp (j + 1) q (by simpa using hq); rwa [show i + (j + 1) = i + 1 + j by omega] at this) (by simp at h; omega)
    rw [Nat.add_zero] at h1
    simp only [whB, List.length_append, h1, h2]
    simp only [List.length_cons] at h
    unfold wid
    unfold npt at h
    omega
theorem datE_large {sz : Int} {ps : List ByteArray} (h : sz < 0 ∨ 4096 < sz) : datE sz ps = 2 := if_pos h
theorem datE_ok {sz : Int} {ps : List ByteArray} (h : ¬ (sz < 0 ∨ 4096 < sz)) (h2 : PartsOk sz.toNat ps) : datE sz ps = 0 := by unfold datE; rw [if_neg h, if_pos h2]
theorem datE_bad {sz : Int} {ps : List ByteArray} (h : ¬ (sz < 0 ∨ 4096 < sz)) (h2 : ¬ PartsOk sz.toNat ps) : datE sz ps = 4 := by unfold datE; rw [if_neg h, if_neg h2]
theorem datE_zero {sz : Int} {ps : List ByteArray} (h : datE sz ps = 0) : (0 ≤ sz ∧ sz ≤ 4096) ∧ PartsOk sz.toNat ps := by
  unfold datE at h
  split at h
  · cases h
  · split at h
    · exact ⟨by omega, by assumption⟩
    · cases h
theorem whole_len {sz : Nat} {ps : List ByteArray} (h : PartsOk sz ps) : (whB sz 0 ps).length = sz := by
  have := whB_len (sz := sz) (i := 0) (ps := ps) (fun j p hp => by rw [Nat.zero_add]; exact h.2 j p hp) (by rw [Nat.zero_add]; exact h.1)
  simpa using this
theorem whB_snoc {sz : Nat} : ∀ (i : Nat) (ps : List ByteArray) (p : ByteArray), whB sz i (ps ++ [p]) = whB sz i ps ++ ptB sz (i + ps.length) p
  | i, [], p => by simp [whB]
  | i, q :: ps, p => by
    simp only [List.cons_append, whB, whB_snoc (i + 1) ps p, List.length_cons, List.append_assoc]
    rw [show i + 1 + ps.length = i + (ps.length + 1) by omega]
end Go.Proofs.Ytnnmiolgffcgkaa
