/- What is read, sign by sign: plain. -/
import Derived.Test.YtnnmiolgffcgkaaDecP
namespace Go.Proofs.Ytnnmiolgffcgkaa
open Go.RowKit Go.PlainAid

open Classical in
noncomputable def sgn (l : List Int) (c w : Int) : Int := if h : ∃ i : Nat, l[i]? = some w ∧ codeAt l i w = c then (Classical.choose h : Nat) else 0
theorem sgn_eq {l : List Int} {c w : Int} {i : Nat} (hw : 0 < w) (h1 : l[i]? = some w) (h2 : codeAt l i w = c) : sgn l c w = i := by
  have h : ∃ i : Nat, l[i]? = some w ∧ codeAt l i w = c := ⟨i, h1, h2⟩
  unfold sgn
  rw [dif_pos h]
  have h3 := Classical.choose_spec h
  rw [code_inj hw h3.1 h1 (h3.2.trans h2.symm)]
open Classical in
noncomputable def oneR (l : List Int) (s : ByteArray) (a : Nat) : Nat → Nat → Int × Int × Int
  | 0, _ => (0, 0, 7)
  | f + 1, w => if Hit l (cN s a w) w then (sgn l (cN s a w) w, ((a + w : Nat) : Int), 0) else if ¬ Mor l (cN s a w) w then (0, 0, 7) else if 8 * s.size ≤ a + w then (0, 0, 3) else oneR l s a f (w + 1)
noncomputable def one (l : List Int) (s : ByteArray) (a : Nat) : Int × Int × Int := oneR l s a 16 0
theorem oneR_hit {l : List Int} {s : ByteArray} {a f w : Nat} (h : Hit l (cN s a w) w) : oneR l s a (f + 1) w = (sgn l (cN s a w) w, ((a + w : Nat) : Int), 0) := by
  simp only [oneR]; rw [if_pos h]
theorem oneR_none {l : List Int} {s : ByteArray} {a f w : Nat} (h : ¬ Hit l (cN s a w) w) (h2 : ¬ Mor l (cN s a w) w) : oneR l s a (f + 1) w = (0, 0, 7) := by
  simp only [oneR]; rw [if_neg h, if_pos h2]
theorem oneR_short {l : List Int} {s : ByteArray} {a f w : Nat} (h : ¬ Hit l (cN s a w) w) (h2 : Mor l (cN s a w) w) (h3 : 8 * s.size ≤ a + w) : oneR l s a (f + 1) w = (0, 0, 3) := by
  simp only [oneR]; rw [if_neg h, if_neg (fun k => k h2), if_pos h3]
theorem oneR_on {l : List Int} {s : ByteArray} {a f w : Nat} (h : ¬ Hit l (cN s a w) w) (h2 : Mor l (cN s a w) w) (h3 : ¬ 8 * s.size ≤ a + w) : oneR l s a (f + 1) w = oneR l s a f (w + 1) := by
  simp only [oneR]; rw [if_neg h, if_neg (fun k => k h2), if_neg h3]
theorem mor_lt {l : List Int} {c : Int} {w : Nat} (h : Mor l c w) : w < 15 := by obtain ⟨v, h1, h2, _⟩ := h; omega
/-- What one sign's reading answers. -/
def OneOk (l : List Int) (s : ByteArray) (a : Nat) (r : Int × Int × Int) : Prop := (∃ x k : Nat, r = ((x : Int), (k : Int), 0) ∧ x < l.length ∧ a ≤ k ∧ k ≤ 8 * s.size) ∨ r = (0, 0, 7) ∨ r = (0, 0, 3)
theorem oneR_ok (l : List Int) (s : ByteArray) (a : Nat) : ∀ f w, a + w ≤ 8 * s.size → OneOk l s a (oneR l s a f w)
  | 0, w, _ => .inr (.inl rfl)
  | f + 1, w, hw => by
    by_cases h : Hit l (cN s a w) w
    · rw [oneR_hit h]
      obtain ⟨i, h1, h2⟩ := (hit_iff h.1).1 h
      rw [sgn_eq h.1 h1 h2]
      exact .inl ⟨i, a + w, rfl, (List.getElem?_eq_some_iff.1 h1).1, by omega, hw⟩
    · by_cases h2 : Mor l (cN s a w) w
      · by_cases h3 : 8 * s.size ≤ a + w
        · rw [oneR_short h h2 h3]; exact .inr (.inr rfl)
        · rw [oneR_on h h2 h3]; exact oneR_ok l s a f (w + 1) (by omega)
      · rw [oneR_none h h2]; exact .inr (.inl rfl)
theorem one_ok (l : List Int) (s : ByteArray) (a : Nat) (h : a ≤ 8 * s.size) : OneOk l s a (one l s a) := oneR_ok l s a 16 0 h
noncomputable def seqR (l : List Int) (s : ByteArray) : Nat → Nat → List Int → Int × List Int × Int
  | 0, a, L => (0, L, (a : Int))
  | k + 1, a, L => if (one l s a).2.2 = 0 then seqR l s k (one l s a).2.1.toNat (L ++ [(one l s a).1]) else ((one l s a).2.2, [], 0)
theorem seqR_on {l : List Int} {s : ByteArray} {k a x y : Nat} {L : List Int} (h : one l s a = ((x : Int), (y : Int), 0)) : seqR l s (k + 1) a L = seqR l s k y (L ++ [(x : Int)]) := by
  simp only [seqR]; rw [h]; simp
theorem seqR_bad {l : List Int} {s : ByteArray} {k a : Nat} {e : Int} {L : List Int} (h : one l s a = (0, 0, e)) (he : e ≠ 0) : seqR l s (k + 1) a L = (e, [], 0) := by
  simp only [seqR]; rw [h]; simp [he]
noncomputable def crR (l : List Int) (s : ByteArray) (at_ n : Int) : Int × List Int × Int :=
  if canE l = 0 then if 0 ≤ at_ ∧ at_ ≤ 8 * s.size ∧ 0 ≤ n then if n ≤ 1024 then seqR l s n.toNat at_.toNat [] else (2, [], 0) else (1, [], 0) else (canE l, [], 0)
end Go.Proofs.Ytnnmiolgffcgkaa
