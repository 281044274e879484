/- Reading a varint: which byte ends it, what is wrong with it, what number it is: plain arithmetic over the bytes f 0, f 1, .. -/
import Derived.Test.YtnnmiolgffcgkaaBits
namespace Go.Proofs.Ytnnmiolgffcgkaa
open Go.RowKit

/-- The first place from i on, at most g further, that holds a byte below 128 or lies at the end. -/
def stopAt (f : Nat → Int) (len : Nat) : Nat → Nat → Nat
  | 0, i => i
  | g + 1, i => if i < len ∧ 128 ≤ f i then stopAt f len g (i + 1) else i
def getK (f : Nat → Int) (len : Nat) : Nat := stopAt f len 9 0
def vsum (f : Nat → Int) : Nat → Int
  | 0 => 0
  | k + 1 => vsum f k + (f k % 128) * 128 ^ k
def getE (f : Nat → Int) (len : Nat) : Int :=
  if getK f len = len then 3 else if (getK f len = 9 ∧ 1 < f (getK f len)) ∨ (0 < getK f len ∧ f (getK f len) = 0) then 4 else 0
def getN (f : Nat → Int) (len : Nat) : Int := if getE f len = 0 then (getK f len : Int) + 1 else 0
def getV (f : Nat → Int) (len : Nat) : Int := if getE f len = 0 then vsum f (getK f len + 1) else 0

theorem stopAt_spec (f : Nat → Int) (len : Nat) : ∀ (g i : Nat), i ≤ len → i ≤ stopAt f len g i ∧ stopAt f len g i ≤ i + g ∧ stopAt f len g i ≤ len ∧
    (∀ j, i ≤ j → j < stopAt f len g i → 128 ≤ f j) ∧ (stopAt f len g i < len → stopAt f len g i < i + g → f (stopAt f len g i) < 128) := by
  intro g
  induction g with
  | zero => intro i hi; simp only [stopAt]; exact ⟨by omega, by omega, hi, fun j h1 h2 => by omega, fun _ h => by omega⟩
  | succ g ih =>
    intro i hi
    simp only [stopAt]
    split
    · rename_i h
      obtain ⟨h1, h2, h3, h4, h5⟩ := ih (i + 1) (by omega)
      refine ⟨by omega, by omega, h3, fun j hj1 hj2 => ?_, fun a b => h5 a (by omega)⟩
      by_cases e : j = i
      · subst e; exact h.2
      · exact h4 j (by omega) hj2
    · rename_i h
      exact ⟨by omega, by omega, hi, fun j h1 h2 => by omega, fun a _ => by omega⟩
theorem getK_spec (f : Nat → Int) (len : Nat) : getK f len ≤ 9 ∧ getK f len ≤ len ∧ (∀ j, j < getK f len → 128 ≤ f j) ∧ (getK f len < len → getK f len < 9 → f (getK f len) < 128) := by
  obtain ⟨_, h2, h3, h4, h5⟩ := stopAt_spec f len 9 0 (Nat.zero_le _)
  refine ⟨?_, h3, fun j hj => h4 j (Nat.zero_le _) hj, fun a b => h5 a ?_⟩
  · unfold getK; omega
  · unfold getK at b; omega
theorem pow128 (k : Nat) : (0 : Int) < 128 ^ k := Int.pow_pos (by decide)
theorem vsum_bd (f : Nat → Int) (k : Nat) : 0 ≤ vsum f k ∧ vsum f k < 128 ^ k := by
  induction k with
  | zero => simp [vsum]
  | succ k ih =>
    have h1 := pow128 k
    have h2 : 0 ≤ f k % 128 ∧ f k % 128 ≤ 127 := by omega
    simp only [vsum, Int.pow_succ]
    have h3 : f k % 128 * 128 ^ k ≤ 127 * 128 ^ k := Int.mul_le_mul_of_nonneg_right h2.2 (by omega)
    have h4 : 0 ≤ f k % 128 * 128 ^ k := Int.mul_nonneg h2.1 (by omega)
    omega
theorem vsum_mono (f : Nat → Int) {i k : Nat} (h : i ≤ k) : vsum f i ≤ vsum f k := by
  induction h with
  | refl => exact Int.le_refl _
  | step _ ih =>
    have h1 := pow128
    rename_i k _
    have h4 : 0 ≤ f k % 128 * 128 ^ k := Int.mul_nonneg (by omega) (by have := h1 k; omega)
    simp only [vsum]; omega
/-- Nothing is wrong: the number fits in 64 bits. -/
theorem vsum_top (f : Nat → Int) (len : Nat) (hpos : ∀ j, 0 ≤ f j) (h : getE f len = 0) : vsum f (getK f len + 1) < 18446744073709551616 := by
  obtain ⟨h1, _, _, _⟩ := getK_spec f len
  by_cases h9 : getK f len = 9
  · have hf : ¬ 1 < f 9 := by
      intro hf
      unfold getE at h
      rw [if_pos (Or.inl ⟨h9, by rw [h9]; exact hf⟩)] at h
      split at h <;> simp at h
    rw [h9]
    show vsum f 9 + f 9 % 128 * 128 ^ 9 < _
    have hb := (vsum_bd f 9).2
    have h0 := hpos 9
    have e9 : (128 : Int) ^ 9 = 9223372036854775808 := by decide
    rw [e9] at *
    rcases (show f 9 = 0 ∨ f 9 = 1 by omega) with e | e <;> rw [e] <;> omega
  · have hb := (vsum_bd f (getK f len + 1)).2
    have : (128 : Int) ^ (getK f len + 1) ≤ 128 ^ 9 := by
      have : (128 : Nat) ^ (getK f len + 1) ≤ 128 ^ 9 := Nat.pow_le_pow_right (by omega) (by omega)
      exact_mod_cast this
    have e9 : (128 : Int) ^ 9 = 9223372036854775808 := by decide
    omega
theorem getE_short {f : Nat → Int} {len : Nat} (h : getK f len = len) : getE f len = 3 ∧ getN f len = 0 ∧ getV f len = 0 := by
  have : getE f len = 3 := by unfold getE; rw [if_pos h]
  refine ⟨this, ?_, ?_⟩
  · unfold getN; rw [if_neg (by omega)]
  · unfold getV; rw [if_neg (by omega)]
theorem getE_form {f : Nat → Int} {len : Nat} (h : getK f len ≠ len) (hb : (getK f len = 9 ∧ 1 < f (getK f len)) ∨ (0 < getK f len ∧ f (getK f len) = 0)) : getE f len = 4 ∧ getN f len = 0 ∧ getV f len = 0 := by
  have : getE f len = 4 := by unfold getE; rw [if_neg h, if_pos hb]
  refine ⟨this, ?_, ?_⟩
  · unfold getN; rw [if_neg (by omega)]
  · unfold getV; rw [if_neg (by omega)]
theorem getE_ok {f : Nat → Int} {len : Nat} (h : getK f len ≠ len) (hb : ¬ ((getK f len = 9 ∧ 1 < f (getK f len)) ∨ (0 < getK f len ∧ f (getK f len) = 0))) : getE f len = 0 ∧ getN f len = getK f len + 1 ∧ getV f len = vsum f (getK f len + 1) := by
  have : getE f len = 0 := by unfold getE; rw [if_neg h, if_neg hb]
  refine ⟨this, ?_, ?_⟩
  · unfold getN; rw [if_pos this]
  · unfold getV; rw [if_pos this]
/-- One group of seven bits more, as the code joins it. -/
theorem join7 (v x : Int) (i : Nat) (h0 : 0 ≤ v) (h1 : v < 128 ^ i) (hx0 : 0 ≤ x) (hx : x * 128 ^ i < 18446744073709551616) (hi : i ≤ 9) :
    bits .or .u64 v (IntKind.u64.wrap (x * 2 ^ (7 * i))) = v + x * 128 ^ i := by
  have e : (2 : Int) ^ (7 * i) = 128 ^ i := by rw [Int.pow_mul]; rfl
  obtain ⟨a, rfl⟩ := Int.eq_ofNat_of_zero_le h0
  obtain ⟨b, rfl⟩ := Int.eq_ofNat_of_zero_le hx0
  have ep : (128 : Int) ^ i = ((128 ^ i : Nat) : Int) := by simp
  have e3 : (2 : Nat) ^ (7 * i) = 128 ^ i := by rw [Nat.pow_mul]
  have hp : (128 : Nat) ^ i ≤ 128 ^ 9 := Nat.pow_le_pow_right (by omega) hi
  have hp9 : (128 : Nat) ^ 9 = 9223372036854775808 := by decide
  have key : bits .or .u64 (a : Int) (IntKind.u64.wrap ((b : Int) * ((128 ^ i : Nat) : Int))) = (a : Int) + (b : Int) * ((128 ^ i : Nat) : Int) := by
    rw [ep] at h1 hx
    have hj := nat_join (7 * i) (b * 128 ^ i) a (by rw [e3]; exact Nat.mul_mod_left _ _) (by rw [e3]; omega)
    generalize 128 ^ i = q at *
    rw [show ((b : Int) * (q : Int)) = ((b * q : Nat) : Int) by simp] at *
    rw [IntKind.wrap_u64, show (((b * q : Nat) : Int) % 18446744073709551616) = ((b * q : Nat) : Int) by omega, u64_or_nat _ _ (by omega) (by omega), Nat.or_comm, hj]
    omega
  rw [e, ep]
  exact key
theorem and127 (b : Int) (h0 : 0 ≤ b) (h1 : b ≤ 255) : bits .and .u8 b 127 = b % 128 := by
  rw [u8_and _ _ h0 (by omega) (by decide) (by decide), show (127 : Int).toNat = 127 from rfl, nat_mask7]
  omega
theorem join7b (f : Nat → Int) (i : Nat) (v : Int) (hv : v = vsum f i) (hf0 : 0 ≤ f i) (hf1 : f i ≤ 255) (hi : i ≤ 9) (h9 : i = 9 → f i ≤ 1) :
    bits .or .u64 v (IntKind.u64.wrap (IntKind.u64.wrap (bits .and .u8 (f i) 127) * 2 ^ (7 * i))) = vsum f (i + 1) := by
  rw [and127 _ hf0 hf1, show IntKind.u64.wrap (f i % 128) = f i % 128 by rw [IntKind.wrap_u64]; omega, hv]
  have hb := vsum_bd f i
  refine join7 _ _ i hb.1 hb.2 (by omega) ?_ hi
  by_cases h : i = 9
  · subst h
    have := h9 rfl
    rw [show (128 : Int) ^ 9 = 9223372036854775808 by decide]
    omega
  · have hb1 := vsum_bd f (i + 1)
    have : (128 : Int) ^ (i + 1) ≤ 128 ^ 9 := by
      have : (128 : Nat) ^ (i + 1) ≤ 128 ^ 9 := Nat.pow_le_pow_right (by omega) (by omega)
      exact_mod_cast this
    have e9 : (128 : Int) ^ 9 = 9223372036854775808 := by decide
    have e1 : vsum f (i + 1) = vsum f i + (f i % 128) * 128 ^ i := rfl
    omega
/-- The reference's sum from the top, one step: what is held, and that it fits. -/
theorem horner (f : Nat → Int) (T v : Int) (i : Nat) (h0 : 0 ≤ v) (hv : v * 128 ^ (i + 1) + vsum f (i + 1) = T) (hT : T < 18446744073709551616) :
    (v * 128 + f i % 128) * 128 ^ i + vsum f i = T ∧ v * 128 + f i % 128 ≤ 18446744073709551615 ∧ v * 128 ≤ 18446744073709551615 := by
  have e1 : vsum f (i + 1) = vsum f i + (f i % 128) * 128 ^ i := rfl
  have hp := pow128 i
  have hb := (vsum_bd f i).1
  rw [e1, Int.pow_succ] at hv
  have e2 : (v * 128 + f i % 128) * 128 ^ i = v * (128 ^ i * 128) + f i % 128 * 128 ^ i := by
    rw [Int.add_mul, Int.mul_assoc, Int.mul_comm 128]
  have h2 : (v * 128 + f i % 128) * 128 ^ i + vsum f i = T := by omega
  have h3 : 0 ≤ v * 128 + f i % 128 := by omega
  have h4 : (v * 128 + f i % 128) * 1 ≤ (v * 128 + f i % 128) * 128 ^ i := Int.mul_le_mul_of_nonneg_left (by omega) h3
  refine ⟨h2, ?_, ?_⟩ <;> omega
end Go.Proofs.Ytnnmiolgffcgkaa
