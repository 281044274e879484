/- Pieces packed: plain. -/
import Derived.Test.YtnnmiolgffcgkaaPkE
namespace Go.Proofs.Ytnnmiolgffcgkaa
open Go.RowKit Go.PlainAid

def PWide (p : Piece) : Prop := 0 ≤ p.Width ∧ p.Width ≤ 64
def PFits (p : Piece) : Prop := p.Val < 2 ^ p.Width.toNat
open Classical in
noncomputable def pkE : List Piece → Int
  | [] => 0
  | p :: r => if PWide p then if PFits p then pkE r else 2 else 1
def pkW (l : List Piece) : Nat := (l.map fun p => p.Width.toNat).sum
def pkB (l : List Piece) : List Int := l.flatMap fun p => pbits p.Val p.Width.toNat
/-- What Pack answers. -/
noncomputable def pkR (l : List Piece) : ByteArray × Int := if pkE l = 0 then if 65536 < pkW l then (ByteArray.empty, 2) else (txt (pkB l), 0) else (ByteArray.empty, pkE l)
theorem pk_first : ∀ l : List Piece, ∃ J, J ≤ l.length ∧ (∀ i, i < J → ∃ p, l[i]? = some p ∧ PWide p ∧ PFits p) ∧ (J < l.length → ∃ p, l[J]? = some p ∧ ((¬ PWide p ∧ pkE l = 1) ∨ (PWide p ∧ ¬ PFits p ∧ pkE l = 2))) ∧ (J = l.length → pkE l = 0)
  | [] => ⟨0, Nat.le_refl _, fun i h => by omega, fun h => by simp at h, fun _ => rfl⟩
  | p :: r => by
    by_cases h1 : PWide p
    · by_cases h2 : PFits p
      · obtain ⟨J, a, b, c, d⟩ := pk_first r
        have e : pkE (p :: r) = pkE r := by simp only [pkE]; rw [if_pos h1, if_pos h2]
        refine ⟨J + 1, by simp; omega, fun i hi => ?_, fun hj => ?_, fun hj => ?_⟩
        · match i with
          | 0 => exact ⟨p, rfl, h1, h2⟩
          | i + 1 => exact b i (by omega)
        · rw [e]; exact c (by simp at hj; omega)
        · rw [e]; exact d (by simp at hj; omega)
      · exact ⟨0, Nat.zero_le _, fun i hi => by omega, fun _ => ⟨p, rfl, .inr ⟨h1, h2, by simp only [pkE]; rw [if_pos h1, if_neg h2]⟩⟩, fun h => by simp at h⟩
    · exact ⟨0, Nat.zero_le _, fun i hi => by omega, fun _ => ⟨p, rfl, .inl ⟨h1, by simp only [pkE]; rw [if_neg h1]⟩⟩, fun h => by simp at h⟩
theorem pkW_take {l : List Piece} {i : Nat} {p : Piece} (h : l[i]? = some p) : pkW (l.take (i + 1)) = pkW (l.take i) + p.Width.toNat := by
  unfold pkW; rw [List.take_add_one, h]; simp
theorem pkB_take {l : List Piece} {i : Nat} {p : Piece} (h : l[i]? = some p) : pkB (l.take (i + 1)) = pkB (l.take i) ++ pbits p.Val p.Width.toNat := by
  unfold pkB; rw [List.take_add_one, h]; simp
theorem pkB_len (l : List Piece) : (pkB l).length = pkW l := by
  unfold pkB pkW
  induction l with
  | nil => rfl
  | cons p r ih => simp only [List.flatMap_cons, List.length_append, List.map_cons, List.sum_cons, pbits_len, ih]
theorem pkB_bits (l : List Piece) : Bits01 (pkB l) := fun x hx => by
  obtain ⟨p, _, h⟩ := List.mem_flatMap.1 hx
  exact pbits_bit _ _ x h
theorem pkW_mono (l : List Piece) (i : Nat) : pkW (l.take i) ≤ pkW l := by
  conv => rhs; rw [← List.take_append_drop i l]
  unfold pkW; rw [List.map_append, List.sum_append]; omega
theorem pkR_bad {l : List Piece} {e : Int} (h : pkE l = e) (he : e ≠ 0) : pkR l = (ByteArray.empty, e) := by unfold pkR; rw [h, if_neg he]
theorem pkR_large {l : List Piece} (h : pkE l = 0) (h2 : 65536 < pkW l) : pkR l = (ByteArray.empty, 2) := by unfold pkR; rw [if_pos h, if_pos h2]
theorem pkR_ok {l : List Piece} (h : pkE l = 0) (h2 : ¬ 65536 < pkW l) : pkR l = (txt (pkB l), 0) := by unfold pkR; rw [if_pos h, if_neg h2]
/-- The next piece, put. -/
theorem pk_next {l : List Piece} {i : Nat} {p : Piece} (h : l[i]? = some p) (hf : PFits p) (h0 : 0 ≤ p.Val) {B : Nat} {W : World} {A : Option Addr} {c q : Nat} (hs : SkS B W A c (pkB (l.take i)) q (heldL (pkB (l.take i)) q) (((pkB (l.take i)).length - 8 * q : Nat) : Int)) (hq : 8 * q ≤ (pkB (l.take i)).length) (hn : (pkB (l.take i)).length - 8 * q < 8) (hbig : pkW l ≤ 65536) :
    PutSt B W W (pkB (l.take i) ++ pbits p.Val p.Width.toNat) (pkB (l.take i)) A c q p.Val p.Width.toNat :=
  ⟨hs, pkB_bits _, hq, hn, h0, hf, rfl, Below.refl _ _, by
    have h1 := pkW_mono l (i + 1)
    rw [pkW_take h] at h1
    rw [pkB_len]; omega⟩
end Go.Proofs.Ytnnmiolgffcgkaa
