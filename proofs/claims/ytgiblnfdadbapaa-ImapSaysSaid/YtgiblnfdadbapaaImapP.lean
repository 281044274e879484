/- Inode maps: which are right, which number is free: plain lists. -/
import Derived.Test.YtgiblnfdadbapaaRightW
namespace Go.Proofs.Ytgiblnfdadbapaa
open Go.RowKit

def ImapGood (xs : List PlaceD) (gs : List Int) (i : Nat) : Prop := ∃ p g, xs[i]? = some p ∧ gs[i]? = some g ∧ rightB p.Cell p.Nth = true ∧ 0 ≤ g ∧ g ≤ 2147483647
def ImapBad (xs : List PlaceD) (gs : List Int) (i : Nat) : Prop := ∃ p g, xs[i]? = some p ∧ gs[i]? = some g ∧ (rightB p.Cell p.Nth = false ∨ (rightB p.Cell p.Nth = true ∧ g < 0) ∨ (rightB p.Cell p.Nth = true ∧ 0 ≤ g ∧ 2147483647 < g))
def ImapOk (xs : List PlaceD) (gs : List Int) : Prop := xs.length = 48 ∧ gs.length = 48 ∧ ∀ i, i < 48 → ImapGood xs gs i
open Classical in
noncomputable def impE (xs : List PlaceD) (gs : List Int) : Int := if ImapOk xs gs then 0 else 4
theorem impE_ok {xs : List PlaceD} {gs : List Int} (h : ImapOk xs gs) : impE xs gs = 0 := if_pos h
theorem impE_no {xs : List PlaceD} {gs : List Int} (h : ¬ ImapOk xs gs) : impE xs gs = 4 := if_neg h
theorem good_or_bad (xs : List PlaceD) (gs : List Int) (h1 : xs.length = 48) (h2 : gs.length = 48) (i : Nat) (hi : i < 48) : ImapGood xs gs i ∨ ImapBad xs gs i := by
  have e1 := List.getElem?_eq_getElem (l := xs) (i := i) (by omega)
  have e2 := List.getElem?_eq_getElem (l := gs) (i := i) (by omega)
  generalize xs[i] = p at e1
  generalize gs[i] = g at e2
  cases hr : rightB p.Cell p.Nth
  · exact .inr ⟨p, g, e1, e2, .inl hr⟩
  · by_cases h3 : g < 0
    · exact .inr ⟨p, g, e1, e2, .inr (.inl ⟨hr, h3⟩)⟩
    · by_cases h4 : 2147483647 < g
      · exact .inr ⟨p, g, e1, e2, .inr (.inr ⟨hr, by omega, h4⟩)⟩
      · exact .inl ⟨p, g, e1, e2, hr, by omega, by omega⟩
theorem bad_not {xs : List PlaceD} {gs : List Int} {i : Nat} (h : ImapBad xs gs i) : ¬ ImapGood xs gs i := by
  rintro ⟨p, g, e1, e2, h1, h2, h3⟩
  obtain ⟨p', g', e1', e2', h⟩ := h
  rw [e1] at e1'; rw [e2] at e2'
  injection e1' with e1'; injection e2' with e2'
  subst e1'; subst e2'
  rcases h with h | ⟨_, h⟩ | ⟨_, _, h⟩
  · rw [h1] at h; cases h
  · omega
  · omega
theorem imap_to (xs : List PlaceD) (gs : List Int) (h1 : xs.length = 48) (h2 : gs.length = 48) :
    ∃ J, J ≤ 48 ∧ (∀ i, i < J → ImapGood xs gs i) ∧ (J < 48 → ImapBad xs gs J) ∧ (J = 48 → impE xs gs = 0) ∧ (J < 48 → impE xs gs = 4) := by
  obtain ⟨J, a, b, c⟩ := first_to 48 (good_or_bad xs gs h1 h2)
  exact ⟨J, a, b, c, fun e => impE_ok ⟨h1, h2, by rw [e] at b; exact b⟩, fun hJ => impE_no fun h => bad_not (c hJ) (h.2.2 J hJ)⟩
/-- A number that is free. -/
def Free (xs : List PlaceD) (gs : List Int) (i : Nat) : Prop := ∃ p g, xs[i]? = some p ∧ gs[i]? = some g ∧ p.Cell = 0 ∧ g < 2147483647
def Taken (xs : List PlaceD) (gs : List Int) (i : Nat) : Prop := ∃ p g, xs[i]? = some p ∧ gs[i]? = some g ∧ (p.Cell ≠ 0 ∨ (p.Cell = 0 ∧ ¬ g < 2147483647))
theorem take_to (xs : List PlaceD) (gs : List Int) (h1 : xs.length = 48) (h2 : gs.length = 48) :
    ∃ K, 1 ≤ K ∧ K ≤ 48 ∧ (∀ i, 1 ≤ i → i < K → Taken xs gs i) ∧ (K < 48 → Free xs gs K) := by
  obtain ⟨J, a, b, c⟩ := first_to (G := fun i => i = 0 ∨ Taken xs gs i) (B := fun i => 1 ≤ i ∧ Free xs gs i) 48 (fun i hi => by
    by_cases h0 : i = 0
    · exact .inl (.inl h0)
    · have e1 := List.getElem?_eq_getElem (l := xs) (i := i) (by omega)
      have e2 := List.getElem?_eq_getElem (l := gs) (i := i) (by omega)
      by_cases hf : xs[i].Cell = 0
      · by_cases hg : gs[i] < 2147483647
        · exact .inr ⟨by omega, _, _, e1, e2, hf, hg⟩
        · exact .inl (.inr ⟨_, _, e1, e2, .inr ⟨hf, hg⟩⟩)
      · exact .inl (.inr ⟨_, _, e1, e2, .inl hf⟩))
  refine ⟨J, ?_, a, fun i hi hJ => ?_, fun hJ => (c hJ).2⟩
  · by_cases h : J < 48
    · exact (c h).1
    · omega
  · rcases b i hJ with h | h
    · omega
    · exact h
end Go.Proofs.Ytgiblnfdadbapaa
