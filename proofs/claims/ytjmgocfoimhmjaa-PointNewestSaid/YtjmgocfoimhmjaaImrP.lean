/- Inode maps read from bytes: plain. -/
import Derived.Test.YtjmgocfoimhmjaaBreadP
import Derived.Test.YtjmgocfoimhmjaaImapP
namespace Go.Proofs.Ytjmgocfoimhmjaa
open Go.RowKit Go.PlainAid

/-- The number at p: what is wrong with it, how long it is, what it is. -/
def jE (s : ByteArray) (p : Nat) : Int := getE (bt (tl s p)) (tl s p).size
def jK (s : ByteArray) (p : Nat) : Nat := (getN (bt (tl s p)) (tl s p).size).toNat
def jV (s : ByteArray) (p : Nat) : Nat := (getV (bt (tl s p)) (tl s p).size).toNat
theorem j_num {s : ByteArray} {p : Nat} (h : jE s p = 0) :
    getN (bt (tl s p)) (tl s p).size = (jK s p : Int) ∧ getV (bt (tl s p)) (tl s p).size = (jV s p : Int) ∧ 1 ≤ jK s p ∧ jK s p ≤ 10 ∧ jK s p ≤ s.size - p := by
  obtain ⟨_, h2, h3, h4', h5⟩ := get_back (bt (tl s p)) (tl s p).size (fun j => bt_nonneg _ j) (fun j => bt_le _ j) h
  have hz := tl_size s p
  have a1 : getN (bt (tl s p)) (tl s p).size = (jK s p : Int) := by unfold jK; omega
  have a2 : getV (bt (tl s p)) (tl s p).size = (jV s p : Int) := by unfold jV; omega
  have a3 : jK s p ≤ (tl s p).size := h2
  exact ⟨a1, a2, by omega, by omega, by omega⟩
structure JOk (s : ByteArray) (p : Nat) : Prop where
  num : jE s p = 0
  top : jV s p ≤ 2147483647
  fits : p + jK s p + 2 ≤ s.size
def jpos (s : ByteArray) : Nat → Nat
  | 0 => 0
  | j + 1 => jpos s j + jK s (jpos s j) + 2
theorem jpos_lt (s : ByteArray) (j : Nat) : jpos s j + 2 ≤ jpos s (j + 1) := by simp only [jpos]; omega
theorem jpos_mono (s : ByteArray) {i j : Nat} (h : i < j) : jpos s i + 2 ≤ jpos s j := by
  induction h with
  | refl => exact jpos_lt s i
  | step _ ih => rename_i m _; have h1 := jpos_lt s m; rw [Nat.succ_eq_add_one]; omega
theorem jpos_inj {s : ByteArray} {i j : Nat} (h : jpos s i = jpos s j) : i = j := by
  rcases Nat.lt_trichotomy i j with h1 | h1 | h1
  · have := jpos_mono s h1; omega
  · exact h1
  · have := jpos_mono s h1; omega
def jpl (s : ByteArray) (p : Nat) : PlaceD := ⟨bt s (p + jK s p), bt s (p + jK s p + 1)⟩
def jPl (s : ByteArray) (j : Nat) : List PlaceD := (List.range j).map fun i => jpl s (jpos s i)
def jGs (s : ByteArray) (j : Nat) : List Int := (List.range j).map fun i => (jV s (jpos s i) : Int)
theorem jPl_succ (s : ByteArray) (j : Nat) : jPl s (j + 1) = jPl s j ++ [jpl s (jpos s j)] := by simp [jPl, List.range_succ]
theorem jGs_succ (s : ByteArray) (j : Nat) : jGs s (j + 1) = jGs s j ++ [(jV s (jpos s j) : Int)] := by simp [jGs, List.range_succ]
theorem jPl_length (s : ByteArray) (j : Nat) : (jPl s j).length = j := by simp [jPl]
theorem jGs_length (s : ByteArray) (j : Nat) : (jGs s j).length = j := by simp [jGs]
structure ImrOk (s : ByteArray) : Prop where
  all : ∀ j, j < 48 → JOk s (jpos s j)
  end_ : jpos s 48 = s.size
  right : impE (jPl s 48) (jGs s 48) = 0
open Classical in
noncomputable def imrE (s : ByteArray) : Int := if ImrOk s then 0 else 4
open Classical in
noncomputable def imrP (s : ByteArray) : List PlaceD := if ImrOk s then jPl s 48 else []
open Classical in
noncomputable def imrG (s : ByteArray) : List Int := if ImrOk s then jGs s 48 else []
theorem imr_bad {s : ByteArray} (h : ¬ ImrOk s) : imrE s = 4 ∧ imrP s = [] ∧ imrG s = [] := by
  unfold imrE imrP imrG; simp only [if_neg h, and_self]
theorem imr_ok {s : ByteArray} (h : ImrOk s) : imrE s = 0 ∧ imrP s = jPl s 48 ∧ imrG s = jGs s 48 := by
  unfold imrE imrP imrG; simp only [if_pos h, and_self]
theorem jpos_end {s : ByteArray} (h : ∀ j, j < 48 → JOk s (jpos s j)) : jpos s 48 ≤ s.size := (h 47 (by omega)).fits
/-- Ahead of the end, at a place where an entry of a right text begins, one begins. -/
theorem imr_at {s : ByteArray} (h : ImrOk s) {j : Nat} (hj : jpos s j < s.size) : j < 48 ∧ JOk s (jpos s j) := by
  have he := h.end_
  have : j < 48 := by
    rcases Nat.lt_trichotomy j 48 with h1 | h1 | h1
    · exact h1
    · subst h1; omega
    · have := jpos_mono s h1; omega
  exact ⟨this, h.all j this⟩
theorem imr_iff {s : ByteArray} {j : Nat} (hall : ∀ i, i < j → JOk s (jpos s i)) (he : jpos s j = s.size) : ImrOk s ↔ impE (jPl s j) (jGs s j) = 0 := by
  constructor
  · intro h
    have : j = 48 := jpos_inj (he.trans h.end_.symm)
    subst this; exact h.right
  · intro h
    have hj : j = 48 := by
      by_cases hk : ImapOk (jPl s j) (jGs s j)
      · have := hk.1; rwa [jPl_length] at this
      · rw [impE_no hk] at h; cases h
    subst hj
    exact ⟨hall, he, h⟩
end Go.Proofs.Ytjmgocfoimhmjaa
