/- Runs read from bytes: plain. -/
import Derived.Test.YtnnmiolgffcgkaaGetP
import Derived.PlainAid
namespace Go.Proofs.Ytnnmiolgffcgkaa
open Go.RowKit Go.PlainAid

/-- What m run bytes from place k on say. -/
def rrL (s : ByteArray) (k : Nat) : Nat → List Int
  | 0 => []
  | m + 1 => rrL s k m ++ List.replicate (bt s (k + m) % 16 + 1).toNat (bt s (k + m) / 16)
/-- The run that begins at place k + m goes on with a sign that the run ahead could have taken. -/
def RrBad (s : ByteArray) (k m : Nat) : Prop := 0 < m ∧ bt s (k + m) / 16 = bt s (k + m - 1) / 16 ∧ bt s (k + m - 1) % 16 < 15
open Classical in
noncomputable def rr (s : ByteArray) (k n : Nat) : Nat → Nat → Int × Nat
  | 0, m => if (rrL s k m).length = n then (0, m) else (3, m)
  | f + 1, m => if (rrL s k m).length = n then (0, m) else if RrBad s k m ∨ n < (rrL s k (m + 1)).length then (4, m) else rr s k n f (m + 1)
section
variable {s : ByteArray} {k n : Nat}
theorem rr_done {f m : Nat} (h : (rrL s k m).length = n) : rr s k n f m = (0, m) := by
  cases f <;> (unfold rr; rw [if_pos h])
theorem rr_short {m : Nat} (h : (rrL s k m).length ≠ n) : rr s k n 0 m = (3, m) := by unfold rr; rw [if_neg h]
theorem rr_form {f m : Nat} (h : (rrL s k m).length ≠ n) (hb : RrBad s k m ∨ n < (rrL s k (m + 1)).length) : rr s k n (f + 1) m = (4, m) := by rw [rr, if_neg h, if_pos hb]
theorem rr_go {f m : Nat} (h : (rrL s k m).length ≠ n) (hb : ¬ (RrBad s k m ∨ n < (rrL s k (m + 1)).length)) : rr s k n (f + 1) m = rr s k n f (m + 1) := by rw [rr, if_neg h, if_neg hb]
theorem rrL_length_succ (m : Nat) : (rrL s k (m + 1)).length = (rrL s k m).length + (bt s (k + m) % 16 + 1).toNat := by simp [rrL]
theorem rrL_ge (m : Nat) : m ≤ (rrL s k m).length := by
  induction m with
  | zero => exact Nat.zero_le _
  | succ m ih =>
    rw [rrL_length_succ]
    have := bt_nonneg s (k + m)
    omega
theorem rrL_pos {m : Nat} : 0 < (rrL s k m).length ↔ 0 < m := by
  constructor
  · intro h
    cases m with
    | zero => simp [rrL] at h
    | succ m => omega
  · intro h; have := rrL_ge (s := s) (k := k) m; omega
end
/-- The answer. -/
noncomputable def rrR (s : ByteArray) : Int × Nat := rr s (getN (bt s) s.size).toNat (getV (bt s) s.size).toNat (s.size - (getN (bt s) s.size).toNat) 0
noncomputable def rrE (s : ByteArray) : Int := if getE (bt s) s.size ≠ 0 then getE (bt s) s.size else if 320 < getV (bt s) s.size then 2 else (rrR s).1
noncomputable def rrAt (s : ByteArray) : Int := if rrE s = 0 then getN (bt s) s.size + (rrR s).2 else 0
noncomputable def rrX (s : ByteArray) : List Int := if rrE s = 0 then rrL s (getN (bt s) s.size).toNat (rrR s).2 else []
theorem rr_get {s : ByteArray} (h : getE (bt s) s.size ≠ 0) : rrE s = getE (bt s) s.size ∧ rrAt s = 0 ∧ rrX s = [] := by
  have e : rrE s = getE (bt s) s.size := by unfold rrE; rw [if_pos h]
  have : rrE s ≠ 0 := by rw [e]; exact h
  exact ⟨e, by unfold rrAt; rw [if_neg this], by unfold rrX; rw [if_neg this]⟩
theorem rr_large {s : ByteArray} (h : getE (bt s) s.size = 0) (h2 : 320 < getV (bt s) s.size) : rrE s = 2 ∧ rrAt s = 0 ∧ rrX s = [] := by
  have e : rrE s = 2 := by unfold rrE; rw [if_neg (by simp [h]), if_pos h2]
  have : rrE s ≠ 0 := by rw [e]; decide
  exact ⟨e, by unfold rrAt; rw [if_neg this], by unfold rrX; rw [if_neg this]⟩
theorem rr_err {s : ByteArray} (h : getE (bt s) s.size = 0) (h2 : ¬ 320 < getV (bt s) s.size) {e : Int} {m : Nat} (he : e ≠ 0) (hr : rrR s = (e, m)) : rrE s = e ∧ rrAt s = 0 ∧ rrX s = [] := by
  have e' : rrE s = e := by unfold rrE; rw [if_neg (by simp [h]), if_neg h2, hr]
  have : rrE s ≠ 0 := by rw [e']; exact he
  exact ⟨e', by unfold rrAt; rw [if_neg this], by unfold rrX; rw [if_neg this]⟩
theorem rr_ok {s : ByteArray} (h : getE (bt s) s.size = 0) (h2 : ¬ 320 < getV (bt s) s.size) {m : Nat} (hr : rrR s = (0, m)) : rrE s = 0 ∧ rrAt s = getN (bt s) s.size + m ∧ rrX s = rrL s (getN (bt s) s.size).toNat m := by
  have e' : rrE s = 0 := by unfold rrE; rw [if_neg (by simp [h]), if_neg h2, hr]
  exact ⟨e', by unfold rrAt; rw [if_pos e', hr], by unfold rrX; rw [if_pos e', hr]⟩
theorem get_end {s : ByteArray} (h : getE (bt s) s.size = 0) : 1 ≤ getN (bt s) s.size ∧ getN (bt s) s.size ≤ s.size := by
  have hk := getK_spec (bt s) s.size
  have : getN (bt s) s.size = (getK (bt s) s.size : Int) + 1 := by unfold getN; rw [if_pos h]
  have hne : getK (bt s) s.size ≠ s.size := fun e => by have := (getE_short e).1; omega
  omega
end Go.Proofs.Ytnnmiolgffcgkaa
