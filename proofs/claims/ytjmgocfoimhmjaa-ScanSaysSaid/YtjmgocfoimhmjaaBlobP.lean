/- Blobs: which are right, and their bytes: plain lists. -/
import Derived.Test.YtjmgocfoimhmjaaTypes
import Derived.Test.YtjmgocfoimhmjaaBtP
import Derived.Test.YtjmgocfoimhmjaaPutP
namespace Go.Proofs.Ytjmgocfoimhmjaa
open Go.RowKit Go.PlainAid

def BlobOk (k i n : Int) (t : ByteArray) : Prop := 0 ≤ i ∧ i ≤ 47 ∧ ((k = 1 ∧ 0 ≤ n ∧ n ≤ 7) ∨ (k = 2 ∧ n = 0) ∨ (k = 3 ∧ n = 0 ∧ t.size = 0))
open Classical in
noncomputable def blbE (k i n : Int) (t : ByteArray) : Int := if ¬ BlobOk k i n t then 1 else if 600 < t.size then 2 else 0
theorem blbE_bad {k i n : Int} {t : ByteArray} (h : ¬ BlobOk k i n t) : blbE k i n t = 1 := if_pos h
theorem blbE_large {k i n : Int} {t : ByteArray} (h : BlobOk k i n t) (h2 : 600 < t.size) : blbE k i n t = 2 := by unfold blbE; rw [if_neg (fun e => e h), if_pos h2]
theorem blbE_ok {k i n : Int} {t : ByteArray} (h : BlobOk k i n t) (h2 : ¬ 600 < t.size) : blbE k i n t = 0 := by unfold blbE; rw [if_neg (fun e => e h), if_neg h2]
theorem blbE_zero {k i n : Int} {t : ByteArray} (h : blbE k i n t = 0) : 1 ≤ k ∧ k ≤ 3 ∧ 0 ≤ i ∧ i ≤ 47 ∧ 0 ≤ n ∧ n ≤ 7 ∧ t.size ≤ 600 := by
  unfold blbE at h
  split at h
  · cases h
  · rename_i h1
    have h1 := Classical.not_not.1 h1
    split at h
    · cases h
    · obtain ⟨a, b, c⟩ := h1; omega
theorem empty_of_size {t : ByteArray} (h : t.size = 0) : t = ⟨#[]⟩ := by
  apply ByteArray.ext
  exact Array.eq_empty_of_size_eq_zero h
theorem empty_ne {t : ByteArray} (h : t.size ≠ 0) : (t.toList == ([] : List UInt8)) = false := by
  refine beq_eq_false_iff_ne.2 fun e => h ?_
  have : t = ⟨#[]⟩ := str_inj (by rw [e, Go.Lib.toList_data])
  rw [this]; rfl
theorem empty_ne' {t : ByteArray} (h : t.size ≠ 0) : (t.toList == (⟨#[]⟩ : ByteArray).toList) = false := str_ne (fun e => h (by rw [e]; rfl))
def oneL (k i n : Int) (t : ByteArray) : List Int := [k, i, n] ++ (putL t.size ++ btL t t.size)
theorem oneL_len (k i n : Int) (t : ByteArray) : (oneL k i n t).length ≤ 13 + t.size := by
  have : (putL (t.size : Int)).length ≤ 10 := (putF_length 9 _).1
  unfold oneL
  simp only [List.length_append, btL_length, List.length_cons, List.length_nil]
  omega
def bodyL : List BlobD → List Int
  | [] => []
  | b :: r => oneL b.Kind b.Ino b.Nth b.Text ++ bodyL r
noncomputable def chkL : List BlobD → Int
  | [] => 0
  | b :: r => if blbE b.Kind b.Ino b.Nth b.Text ≠ 0 then blbE b.Kind b.Ino b.Nth b.Text else chkL r
theorem bodyL_append (a b : List BlobD) : bodyL (a ++ b) = bodyL a ++ bodyL b := by
  induction a with
  | nil => rfl
  | cons x r ih => simp [bodyL, ih]
theorem bodyL_take {l : List BlobD} {j : Nat} {k i n : Int} {t : ByteArray} (h : l[j]? = some ⟨k, i, n, t⟩) : bodyL (l.take (j + 1)) = bodyL (l.take j) ++ oneL k i n t := by
  rw [List.take_add_one, h, bodyL_append]; simp [bodyL]
theorem chk_drop {l : List BlobD} {j : Nat} {x : BlobD} (h : l[j]? = some x) : l.drop j = x :: l.drop (j + 1) := by
  have hk : j < l.length := (List.getElem?_eq_some_iff.1 h).1
  rw [List.drop_eq_getElem_cons hk]
  have : l[j] = x := by have := List.getElem?_eq_getElem hk; rw [this] at h; injection h
  rw [this]
theorem chkL_bad {l : List BlobD} {j : Nat} {k i n : Int} {t : ByteArray} (h : l[j]? = some ⟨k, i, n, t⟩) (hx : blbE k i n t ≠ 0) : chkL (l.drop j) = blbE k i n t := by rw [chk_drop h, chkL, if_pos hx]
theorem chkL_go {l : List BlobD} {j : Nat} {k i n : Int} {t : ByteArray} (h : l[j]? = some ⟨k, i, n, t⟩) (hx : blbE k i n t = 0) : chkL (l.drop j) = chkL (l.drop (j + 1)) := by rw [chk_drop h, chkL, if_neg (by simp [hx])]
theorem chkL_end {l : List BlobD} {j : Nat} (h : l.length ≤ j) : chkL (l.drop j) = 0 := by rw [List.drop_eq_nil_of_le h]; rfl
noncomputable def blsE (l : List BlobD) : Int := if 40 < l.length then 2 else if chkL l ≠ 0 then chkL l else if 998 < (bodyL l).length then 2 else 0
noncomputable def blsS (l : List BlobD) (x : Int) : List Int := if blsE l = 0 then x :: (l.length : Int) :: bodyL l else []
theorem bls_many {l : List BlobD} (x : Int) (h : 40 < l.length) : blsE l = 2 ∧ blsS l x = [] := by
  have e : blsE l = 2 := if_pos h
  exact ⟨e, by unfold blsS; rw [e]; rfl⟩
theorem bls_chk {l : List BlobD} (x : Int) (h : ¬ 40 < l.length) {e : Int} (he : e ≠ 0) (h2 : chkL l = e) : blsE l = e ∧ blsS l x = [] := by
  have e' : blsE l = e := by unfold blsE; rw [if_neg h, if_pos (by rw [h2]; exact he), h2]
  exact ⟨e', by unfold blsS; rw [e', if_neg he]⟩
theorem bls_long {l : List BlobD} (x : Int) (h : ¬ 40 < l.length) (h2 : chkL l = 0) (h3 : 998 < (bodyL l).length) : blsE l = 2 ∧ blsS l x = [] := by
  have e : blsE l = 2 := by unfold blsE; rw [if_neg h, if_neg (by simp [h2]), if_pos h3]
  exact ⟨e, by unfold blsS; rw [e]; rfl⟩
theorem bls_ok {l : List BlobD} (x : Int) (h : ¬ 40 < l.length) (h2 : chkL l = 0) (h3 : ¬ 998 < (bodyL l).length) : blsE l = 0 ∧ blsS l x = x :: (l.length : Int) :: bodyL l := by
  have e : blsE l = 0 := by unfold blsE; rw [if_neg h, if_neg (by simp [h2]), if_neg h3]
  exact ⟨e, by unfold blsS; rw [e]; rfl⟩
end Go.Proofs.Ytjmgocfoimhmjaa
