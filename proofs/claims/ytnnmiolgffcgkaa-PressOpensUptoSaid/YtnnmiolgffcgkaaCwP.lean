/- Signs written as codes: plain lists. -/
import Derived.Test.YtnnmiolgffcgkaaCanonQ
import Derived.Test.YtnnmiolgffcgkaaFlipP
import Derived.Test.YtnnmiolgffcgkaaTypes
namespace Go.Proofs.Ytnnmiolgffcgkaa
open Go.RowKit

/-- A number out of its bits, the lowest first. -/
def horn : List Int → Int
  | [] => 0
  | x :: r => x + 2 * horn r
/-- The lowest k bits of c, the highest of them first. -/
def cword (c : Int) : Nat → List Int
  | 0 => []
  | k + 1 => (c / 2 ^ k % 2) :: cword c k
theorem cword_length (c : Int) : ∀ k, (cword c k).length = k
  | 0 => rfl
  | k + 1 => by simp [cword, cword_length c k]
theorem cword_bit (c : Int) : ∀ k, ∀ x ∈ cword c k, 0 ≤ x ∧ x ≤ 1
  | 0 => fun x h => by simp [cword] at h
  | k + 1 => fun x h => by
    simp only [cword, List.mem_cons] at h
    rcases h with rfl | h
    · omega
    · exact cword_bit c k x h
theorem horn_cword (c : Nat) : ∀ k, horn (cword c k) = flipTo c k
  | 0 => rfl
  | k + 1 => by
    simp only [cword, horn, flipTo, horn_cword c k]
    have e : ((c : Int) / 2 ^ k % 2) = ((c / 2 ^ k % 2 : Nat) : Int) := by simp
    rw [e]; omega
theorem horn_bd : ∀ l : List Int, (∀ x ∈ l, 0 ≤ x ∧ x ≤ 1) → 0 ≤ horn l ∧ horn l < 2 ^ l.length
  | [], _ => by simp [horn]
  | x :: r, h => by
    have h1 := h x (by simp)
    have ih := horn_bd r (fun y hy => h y (by simp [hy]))
    simp only [horn, List.length_cons, Int.pow_succ]
    omega
def SgOk (l : List Int) (s : Int) : Prop := 0 ≤ s ∧ s < l.length ∧ l.getD s.toNat 0 ≠ 0
open Classical in
noncomputable def sgsE (l : List Int) : List Int → Int
  | [] => 0
  | s :: r => if SgOk l s then sgsE l r else 1
noncomputable def cwE (l signs : List Int) : Int := if canE l ≠ 0 then canE l else sgsE l signs
def wd (l : List Int) (s : Int) : Int := l.getD s.toNat 0
def cd (l : List Int) (s : Int) : Int := (canL l l.length).getD s.toNat 0
def sgP (l : List Int) (s : Int) : Piece := ⟨flip (cd l s).toNat (wd l s), wd l s⟩
def sgB (l : List Int) (s : Int) : List Int := cword (cd l s) (wd l s).toNat
noncomputable def cwP (l signs : List Int) : List Piece := if cwE l signs = 0 then signs.map (sgP l) else []
noncomputable def cwB (l signs : List Int) : List Int := if cwE l signs = 0 then signs.flatMap (sgB l) else []
noncomputable def cwW (l signs : List Int) : List Int := if cwE l signs = 0 then signs.map (wd l) else []
theorem sgs_to (l : List Int) : ∀ signs : List Int, ∃ J, J ≤ signs.length ∧ (∀ i, i < J → ∃ s, signs[i]? = some s ∧ SgOk l s) ∧ (J < signs.length → ∃ s, signs[J]? = some s ∧ ¬ SgOk l s) ∧ (J = signs.length → sgsE l signs = 0) ∧ (J < signs.length → sgsE l signs = 1)
  | [] => ⟨0, Nat.le_refl _, fun i hi => by omega, fun h => by simp at h, fun _ => rfl, fun h => by simp at h⟩
  | s :: r => by
    by_cases h : SgOk l s
    · obtain ⟨J, a, b, c, d, e⟩ := sgs_to l r
      refine ⟨J + 1, by simp; omega, fun i hi => ?_, fun hj => ?_, fun hj => ?_, fun hj => ?_⟩
      · match i with
        | 0 => exact ⟨s, rfl, h⟩
        | i + 1 => exact b i (by omega)
      · exact c (by simpa using hj)
      · simp only [sgsE, if_pos h]; exact d (by simpa using hj)
      · simp only [sgsE, if_pos h]; exact e (by simpa using hj)
    · exact ⟨0, by simp, fun i hi => by omega, fun _ => ⟨s, rfl, h⟩, fun hj => by simp at hj, fun _ => by simp only [sgsE, if_neg h]⟩
theorem cw_can {l signs : List Int} (h : canE l ≠ 0) : cwE l signs = canE l ∧ cwP l signs = [] ∧ cwB l signs = [] ∧ cwW l signs = [] := by
  have e : cwE l signs = canE l := if_pos h
  exact ⟨e, by unfold cwP; rw [e, if_neg h], by unfold cwB; rw [e, if_neg h], by unfold cwW; rw [e, if_neg h]⟩
theorem cw_bad {l signs : List Int} (h : canE l = 0) (h2 : sgsE l signs = 1) : cwE l signs = 1 ∧ cwP l signs = [] ∧ cwB l signs = [] ∧ cwW l signs = [] := by
  have e : cwE l signs = 1 := by unfold cwE; rw [if_neg (by simp [h]), h2]
  exact ⟨e, by unfold cwP; rw [e]; rfl, by unfold cwB; rw [e]; rfl, by unfold cwW; rw [e]; rfl⟩
theorem cw_ok {l signs : List Int} (h : canE l = 0) (h2 : sgsE l signs = 0) : cwE l signs = 0 ∧ cwP l signs = signs.map (sgP l) ∧ cwB l signs = signs.flatMap (sgB l) ∧ cwW l signs = signs.map (wd l) := by
  have e : cwE l signs = 0 := by unfold cwE; rw [if_neg (by simp [h]), h2]
  exact ⟨e, by unfold cwP; rw [e]; rfl, by unfold cwB; rw [e]; rfl, by unfold cwW; rw [e]; rfl⟩
theorem cw_cases (l signs : List Int) : (cwE l signs = 0 ∧ canE l = 0 ∧ ∀ s ∈ signs, SgOk l s) ∨ (cwE l signs ≠ 0) := by
  by_cases h : canE l = 0
  · obtain ⟨J, a, b, c, d, e⟩ := sgs_to l signs
    by_cases hj : J = signs.length
    · refine .inl ⟨(cw_ok h (d hj)).1, h, fun s hs => ?_⟩
      obtain ⟨i, hi, rfl⟩ := List.mem_iff_getElem.1 hs
      obtain ⟨s', h1, h2⟩ := b i (by omega)
      rw [List.getElem?_eq_getElem hi] at h1
      injection h1 with h1
      rw [h1]; exact h2
    · right; rw [(cw_bad h (e (by omega))).1]; decide
  · right; rw [(cw_can h).1]; exact h
theorem fill_all {l : List Int} (h : canE l = 0) : ∀ x ∈ l, 0 ≤ x ∧ x ≤ 15 := by
  by_cases hf : fillE l = 0
  · exact (fillE_zero hf).2
  · rw [(can_fill hf).1] at h; exact absurd h hf
theorem wd_bd {l : List Int} (h : canE l = 0) {s : Int} (hs : SgOk l s) : 1 ≤ wd l s ∧ wd l s ≤ 15 := by
  obtain ⟨a, b, c⟩ := hs
  have hi : s.toNat < l.length := by omega
  have e : l.getD s.toNat 0 = l[s.toNat] := by simp [List.getD_eq_getElem?_getD, List.getElem?_eq_getElem hi]
  have := fill_all h _ (List.getElem_mem hi)
  unfold wd
  rw [e] at c ⊢
  omega
theorem canL_at (l : List Int) : ∀ (k i : Nat) (x : Int), i < k → l[i]? = some x → k ≤ l.length → (canL l k)[i]? = some (codeAt l i x)
  | 0, i, x, h, _, _ => by omega
  | k + 1, i, x, h, hx, hk => by
    have ek := List.getElem?_eq_getElem (l := l) (i := k) (by omega)
    rw [canL_succ ek]
    by_cases hi : i < k
    · rw [List.getElem?_append_left (by rw [canL_length]; exact hi)]
      exact canL_at l k i x hi hx (by omega)
    · obtain rfl : i = k := by omega
      rw [List.getElem?_append_right (by rw [canL_length]; omega), canL_length]
      rw [ek] at hx; injection hx with hx
      simp [hx]
theorem cd_bd {l : List Int} (h : canE l = 0) {k : Nat} {x : Int} (hx : l[k]? = some x) : (canL l l.length)[k]? = some (cd l k) ∧ wd l k = x ∧ 0 ≤ cd l k ∧ cd l k ≤ 32768 * 320 := by
  have hk : k < l.length := (List.getElem?_eq_some_iff.1 hx).1
  have hc := canL_at l l.length k x hk hx (Nat.le_refl _)
  have e1 : cd l k = codeAt l k x := by unfold cd; simp [List.getD_eq_getElem?_getD, hc]
  have e2 : wd l k = x := by unfold wd; simp [List.getD_eq_getElem?_getD, hx]
  have hall := fill_all h
  have hxb := hall x (by rw [List.mem_iff_getElem?]; exact ⟨k, hx⟩)
  have hfe : fillE l = 0 := by
    by_cases hf : fillE l = 0
    · exact hf
    · rw [(can_fill hf).1] at h; exact absurd h hf
  have hn := (fillE_zero hfe).1
  have hs : fsum l ≤ 32768 := by
    by_cases ho : 32768 < fillV l
    · rw [(can_over hfe ho).1] at h; cases h
    · have : fillV l = fsum l := by
        unfold fillE at hfe
        unfold fillV
        by_cases h3 : 320 < l.length
        · rw [if_pos h3] at hfe; cases hfe
        · rw [if_neg h3] at hfe ⊢
          split at hfe
          · rename_i hh; rw [if_pos hh]
          · cases hfe
      omega
  refine ⟨by rw [hc, e1], e2, by rw [e1]; exact codeAt_nonneg _ _ _, ?_⟩
  rw [e1]
  unfold codeAt
  split
  · rename_i h0
    have hk1 := low_kraft x h0 hxb.2 l hall
    have h1 := cntW_bd x (l.take k)
    have h2 := cntW_bd x l
    have h3 := lowW_nonneg x l
    have hp := pow15 hxb.1 hxb.2
    have h4 : 1 * (lowW x l + cntW x l) ≤ 2 ^ (15 - x).toNat * (lowW x l + cntW x l) := Int.mul_le_mul_of_nonneg_right hp.1 (by omega)
    have h5 : (l.take k).length ≤ 320 := by rw [List.length_take]; omega
    omega
  · omega
theorem sg_nat {l : List Int} {s : Int} (h : SgOk l s) : ∃ k : Nat, s = k ∧ k < l.length ∧ wd l s ≠ 0 := ⟨s.toNat, by have := h.1; omega, by have := h.1; have := h.2.1; omega, h.2.2⟩
theorem sg_no {l : List Int} {s : Int} (h : ¬ SgOk l s) : s < 0 ∨ (0 ≤ s ∧ (l.length : Int) ≤ s) ∨ ∃ k : Nat, s = k ∧ k < l.length ∧ l[k]? = some 0 := by
  by_cases h1 : s < 0
  · exact .inl h1
  · by_cases h2 : s < l.length
    · refine .inr (.inr ⟨s.toNat, by omega, by omega, ?_⟩)
      have hk : s.toNat < l.length := by omega
      have : l.getD s.toNat 0 = 0 := Classical.byContradiction fun h3 => h ⟨by omega, h2, h3⟩
      rw [List.getElem?_eq_getElem hk]
      simpa [List.getD_eq_getElem?_getD, List.getElem?_eq_getElem hk] using this
    · exact .inr (.inl ⟨by omega, by omega⟩)
theorem sgP_take {l signs : List Int} {i : Nat} {s : Int} (h : signs[i]? = some s) : ((signs.take (i + 1)).map (sgP l)).flatMap Piece.cells = ((signs.take i).map (sgP l)).flatMap Piece.cells ++ [.int .u64 (sgP l s).Val, .int .i64 (sgP l s).Width] := by
  rw [List.take_add_one, h]; simp [Piece.cells]
end Go.Proofs.Ytnnmiolgffcgkaa
