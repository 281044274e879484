/- What both sides of the law CodeWrites answer, sign by sign: plain lists. -/
import Derived.Test.YtdoaogfpahjmmaaCwP
namespace Go.Proofs.Ytdoaogfpahjmmaa
open Go.RowKit

theorem cw_form (l sg : List Int) : ∃ S : List Int, cwP l sg = S.map (sgP l) ∧ cwB l sg = S.flatMap (sgB l) ∧ cwW l sg = S.map (wd l) ∧ ∀ s ∈ S, 1 ≤ wd l s ∧ wd l s ≤ 15 ∧ 0 ≤ cd l s := by
  rcases cw_cases l sg with ⟨h1, h2, h3⟩ | h1
  · refine ⟨sg, by unfold cwP; rw [if_pos h1], by unfold cwB; rw [if_pos h1], by unfold cwW; rw [if_pos h1], fun s hs => ?_⟩
    have hk := h3 s hs
    have hw := wd_bd h2 hk
    refine ⟨hw.1, hw.2, ?_⟩
    obtain ⟨k, rfl, hkl, _⟩ := sg_nat hk
    exact (cd_bd h2 (List.getElem?_eq_getElem hkl)).2.2.1
  · exact ⟨[], by unfold cwP; rw [if_neg h1]; rfl, by unfold cwB; rw [if_neg h1]; rfl, by unfold cwW; rw [if_neg h1]; rfl, fun s hs => by simp at hs⟩
theorem sgB_len {l : List Int} {s : Int} : (sgB l s).length = (wd l s).toNat := cword_length _ _
theorem sgB_horn {l : List Int} {s : Int} (h1 : 1 ≤ wd l s) (h2 : wd l s ≤ 15) (h3 : 0 ≤ cd l s) : horn (sgB l s) = (sgP l s).Val := by
  show horn (cword (cd l s) (wd l s).toNat) = ((flip (cd l s).toNat (wd l s) : Nat) : Int)
  have e : cd l s = ((cd l s).toNat : Int) := by omega
  rw [e, horn_cword, Int.toNat_natCast]
  unfold flip clamp
  rw [if_neg (by omega), if_neg (by omega)]
theorem drop_bits {l S : List Int} {i : Nat} {s : Int} (h : S[i]? = some s) : (S.drop i).flatMap (sgB l) = sgB l s ++ (S.drop (i + 1)).flatMap (sgB l) := by
  have hi := (List.getElem?_eq_some_iff.1 h)
  rw [List.drop_eq_getElem_cons hi.1, hi.2]; rfl
theorem sgB_bit {l : List Int} {s : Int} : ∀ x ∈ sgB l s, 0 ≤ x ∧ x ≤ 1 := cword_bit _ _
/-- One round's facts. -/
theorem cw_round {l S : List Int} (hS : ∀ s ∈ S, 1 ≤ wd l s ∧ wd l s ≤ 15 ∧ 0 ≤ cd l s) {i : Nat} (hi : i < S.length) : ∃ (x : Nat) (f : Int) (bs : List Int), 1 ≤ x ∧ x ≤ 15 ∧ (S.map (sgP l))[i]? = some ⟨f, x⟩ ∧ (S.map (wd l))[i]? = some (x : Int) ∧ horn bs = f ∧ bs.length = x ∧ (∀ y ∈ bs, 0 ≤ y ∧ y ≤ 1) ∧ (S.drop i).flatMap (sgB l) = bs ++ (S.drop (i + 1)).flatMap (sgB l) := by
  have e := List.getElem?_eq_getElem hi
  obtain ⟨h1, h2, h3⟩ := hS _ (List.getElem_mem hi)
  generalize S[i] = s at *
  have ex : wd l s = ((wd l s).toNat : Int) := by omega
  refine ⟨(wd l s).toNat, (sgP l s).Val, sgB l s, by omega, by omega, ?_, ?_, sgB_horn h1 h2 h3, sgB_len, sgB_bit, drop_bits e⟩
  · rw [List.getElem?_map, e]; show some (sgP l s) = _; rw [← ex]; rfl
  · rw [List.getElem?_map, e]; show some (wd l s) = _; rw [← ex]
end Go.Proofs.Ytdoaogfpahjmmaa
