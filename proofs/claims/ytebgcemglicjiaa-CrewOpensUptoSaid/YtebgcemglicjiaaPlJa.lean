/- Runs read from bytes: plain. -/
import Derived.WalkKit
import Derived.Test.YtebgcemglicjiaaRows
import Derived.PlainAid
/- Bits of numbers: small lemmas of our own on the model's 'bits' at 64 and 32 bits, over any program. -/
namespace Go.Proofs.Ytebgcemglicjiaa
open Go.RowKit

theorem bits_xor_zero_u64 (a : Int) (h0 : 0 ≤ a) (h1 : a < 18446744073709551616) : bits .xor .u64 a 0 = a := by
  obtain ⟨n, rfl⟩ := Int.eq_ofNat_of_zero_le h0
  have := u64_xor_nat n 0 (by omega) (by decide)
  simpa using this
theorem bits_xor_ones_u64 (a : Int) (h0 : 0 ≤ a) (h1 : a < 18446744073709551616) : bits .xor .u64 a 18446744073709551615 = 18446744073709551615 - a := by
  obtain ⟨n, rfl⟩ := Int.eq_ofNat_of_zero_le h0
  have h := u64_xor_nat n 18446744073709551615 (by omega) (by decide)
  have e : n ^^^ 18446744073709551615 = 18446744073709551615 - n := by
    have h2 : (BitVec.ofNat 64 n ^^^ BitVec.allOnes 64).toNat = n ^^^ 18446744073709551615 := by
      rw [BitVec.toNat_xor, BitVec.toNat_ofNat, Nat.mod_eq_of_lt (by omega)]; rfl
    rw [← h2, BitVec.xor_allOnes, BitVec.toNat_not, BitVec.toNat_ofNat, Nat.mod_eq_of_lt (by omega)]
  rw [e] at h
  rw [show (18446744073709551615 : Int) = ((18446744073709551615 : Nat) : Int) from rfl, h]
  omega
theorem bits_xor_zero_i64 (a : Int) (h0 : 0 ≤ a) (h1 : a < 9223372036854775808) : bits .xor .i64 a 0 = a := by
  unfold bits
  have : BitVec.ofInt IntKind.i64.bits 0 = 0#IntKind.i64.bits := rfl
  simp only [this, BitVec.xor_zero]
  rw [IntKind.wrap_i64]
  have : (BitVec.ofInt IntKind.i64.bits a).toNat = a.toNat := by
    obtain ⟨n, rfl⟩ := Int.eq_ofNat_of_zero_le h0
    show (BitVec.ofInt 64 (n : Int)).toNat = n
    rw [BitVec.ofInt_natCast, BitVec.toNat_ofNat]; exact Nat.mod_eq_of_lt (by omega)
  rw [this]; omega
theorem bits_xor_ones_i64 (a : Int) (h0 : 0 ≤ a) (h1 : a < 9223372036854775808) : bits .xor .i64 a (-1) = - a - 1 := by
  unfold bits
  have : BitVec.ofInt IntKind.i64.bits (-1) = BitVec.allOnes IntKind.i64.bits := rfl
  simp only [this, BitVec.xor_allOnes, BitVec.toNat_not]
  rw [IntKind.wrap_i64]
  have : (BitVec.ofInt IntKind.i64.bits a).toNat = a.toNat := by
    obtain ⟨n, rfl⟩ := Int.eq_ofNat_of_zero_le h0
    show (BitVec.ofInt 64 (n : Int)).toNat = n
    rw [BitVec.ofInt_natCast, BitVec.toNat_ofNat]; exact Nat.mod_eq_of_lt (by omega)
  rw [this, show (2 : Nat) ^ IntKind.i64.bits = 18446744073709551616 from rfl]; omega

/-- Zigzag. -/
def zig (n : Int) : Int := if 0 ≤ n then 2 * n else -2 * n - 1
def zag (u : Int) : Int := if u % 2 = 0 then u / 2 else -(u / 2) - 1

theorem zig_bits (n : Int) (h0 : -9223372036854775808 ≤ n) (h1 : n ≤ 9223372036854775807) :
    bits .xor .u64 (IntKind.u64.wrap (IntKind.u64.wrap n * 2)) (IntKind.u64.wrap (n / 9223372036854775808)) = zig n := by
  unfold zig
  split
  · rw [show n / 9223372036854775808 = 0 by omega, show IntKind.u64.wrap 0 = 0 from rfl, IntKind.wrap_u64, IntKind.wrap_u64, bits_xor_zero_u64 _ (by omega) (by omega)]
    omega
  · rw [show n / 9223372036854775808 = -1 by omega, show IntKind.u64.wrap (-1) = 18446744073709551615 from rfl, IntKind.wrap_u64, IntKind.wrap_u64, bits_xor_ones_u64 _ (by omega) (by omega)]
    omega
theorem and_one_u64 (u : Int) (h0 : 0 ≤ u) (h1 : u < 18446744073709551616) : bits .and .u64 u 1 = u % 2 := by
  obtain ⟨n, rfl⟩ := Int.eq_ofNat_of_zero_le h0
  have h := u64_and_nat n 1 (by omega) (by decide)
  rw [nat_mask1] at h
  exact h
theorem zag_bits (n : Int) (h0 : 0 ≤ n) (h1 : n ≤ 18446744073709551615) :
    bits .xor .i64 (n / 2) (wrap64 (-wrap64 (bits .and .u64 n 1))) = zag n := by
  rw [and_one_u64 n h0 (by omega)]
  unfold zag
  rcases (show n % 2 = 0 ∨ n % 2 = 1 by omega) with h | h
  · rw [h, if_pos rfl, show wrap64 (-wrap64 0) = 0 by unfold wrap64; omega, bits_xor_zero_i64 _ (by omega) (by omega)]
  · rw [h, if_neg (by decide), show wrap64 (-wrap64 1) = -1 by unfold wrap64; omega, bits_xor_ones_i64 _ (by omega) (by omega)]
theorem wf_i64_bd {n : Int} (h : (Lit.int .i64 n).wf = true) : -9223372036854775808 ≤ n ∧ n ≤ 9223372036854775807 := by
  simpa [Lit.wf, IntKind.min, IntKind.max, IntKind.signed, IntKind.bits] using h
theorem wf_u64_bd {n : Int} (h : (Lit.int .u64 n).wf = true) : 0 ≤ n ∧ n ≤ 18446744073709551615 := by
  simpa [Lit.wf, IntKind.min, IntKind.max, IntKind.signed, IntKind.bits] using h
theorem wf_u32_bd {n : Int} (h : (Lit.int .u32 n).wf = true) : 0 ≤ n ∧ n ≤ 4294967295 := by
  simpa [Lit.wf, IntKind.min, IntKind.max, IntKind.signed, IntKind.bits] using h
theorem wf_u8_bd {n : Int} (h : (Lit.int .u8 n).wf = true) : 0 ≤ n ∧ n ≤ 255 := by
  simpa [Lit.wf, IntKind.min, IntKind.max, IntKind.signed, IntKind.bits] using h
end Go.Proofs.Ytebgcemglicjiaa

/- Numbers as bytes, the most significant first: plain arithmetic. -/
namespace Go.Proofs.Ytebgcemglicjiaa
open Go.RowKit

/-- The lowest k bytes of n, the most significant first. -/
def fixL : Nat → Int → List Int
  | 0, _ => []
  | k + 1, n => n / 256 ^ k % 256 :: fixL k n
theorem fixL_length (k : Nat) (n : Int) : (fixL k n).length = k := by
  induction k with
  | zero => rfl
  | succ k ih => simp [fixL, ih]
theorem fix_set (i : Nat) (L : List Int) (b : Int) : (List.replicate (i + 1) 0 ++ L).set i b = List.replicate i 0 ++ b :: L := by
  rw [List.replicate_succ', List.append_assoc]
  rw [List.set_append_right _ _ (by simp)]
  simp
/-- What fixL of w gives, as Fix takes w. -/
def fixW (w : Int) (n : Int) : List Int := if 1 ≤ w ∧ w ≤ 8 then fixL w.toNat n else []
theorem shr8 (n : Int) (k : Nat) : n / 256 ^ k / 256 = n / 256 ^ (k + 1) := by
  rw [Int.pow_succ, ← Int.ediv_ediv_of_nonneg (Int.le_of_lt (Int.pow_pos (by decide)))]

/-- The number with the bytes f 0 .. f (k - 1), the most significant first. -/
def beF (f : Nat → Int) : Nat → Int
  | 0 => 0
  | k + 1 => beF f k * 256 + f k
theorem pow256 (k : Nat) : (0 : Int) < 256 ^ k := Int.pow_pos (by decide)
theorem beF_bd (f : Nat → Int) (h0 : ∀ j, 0 ≤ f j) (h1 : ∀ j, f j ≤ 255) (k : Nat) : 0 ≤ beF f k ∧ beF f k < 256 ^ k := by
  induction k with
  | zero => simp [beF]
  | succ k ih =>
    have := h0 k
    have := h1 k
    simp only [beF, Int.pow_succ]
    omega
theorem pow256_8 (k : Nat) (h : k ≤ 8) : (256 : Int) ^ k ≤ 18446744073709551616 := by
  have : (256 : Nat) ^ k ≤ 256 ^ 8 := Nat.pow_le_pow_right (by omega) h
  have e : (256 : Nat) ^ 8 = 18446744073709551616 := by decide
  have e2 : ((256 : Int) ^ k) = ((256 ^ k : Nat) : Int) := by simp
  omega
theorem or8 (v b : Int) (h0 : 0 ≤ v) (h1 : v * 256 < 18446744073709551616) (hb0 : 0 ≤ b) (hb1 : b ≤ 255) : bits .or .u64 (IntKind.u64.wrap (v * 256)) b = v * 256 + b := by
  obtain ⟨a, rfl⟩ := Int.eq_ofNat_of_zero_le h0
  obtain ⟨c, rfl⟩ := Int.eq_ofNat_of_zero_le hb0
  rw [IntKind.wrap_u64, show ((a : Int) * 256 % 18446744073709551616) = ((a * 256 : Nat) : Int) by omega, u64_or_nat _ _ (by omega) (by omega), nat_join 8 _ _ (by omega) (by omega)]
  omega
theorem be_step (f : Nat → Int) (h0 : ∀ j, 0 ≤ f j) (h1 : ∀ j, f j ≤ 255) (k : Nat) (v : Int) (hv : v = beF f k) (hk : k < 8) :
    bits .or .u64 (IntKind.u64.wrap (v * 256)) (f k) = beF f (k + 1) := by
  have hb := beF_bd f h0 h1 k
  have hp := pow256_8 (k + 1) (by omega)
  rw [Int.pow_succ] at hp
  rw [hv, or8 _ _ hb.1 (by omega) (h0 k) (h1 k)]
  rfl
/-- The reference's step, from the end: place i holds f i, worth 256 ^ m. -/
theorem worth_step (f : Nat → Int) (h0 : ∀ j, 0 ≤ f j) (h1 : ∀ j, f j ≤ 255) (T n worth : Int) (i m : Nat) (hm : m < 8) (hw : worth = 256 ^ m % 18446744073709551616)
    (hn0 : 0 ≤ n) (hn1 : n < 256 ^ m) (hT : beF f (i + 1) * 256 ^ m + n = T) :
    IntKind.u64.wrap (n + IntKind.u64.wrap (f i * worth)) = n + f i * 256 ^ m ∧ beF f i * 256 ^ (m + 1) + (n + f i * 256 ^ m) = T ∧
      0 ≤ n + f i * 256 ^ m ∧ n + f i * 256 ^ m < 256 ^ (m + 1) ∧ IntKind.u64.wrap (worth * 256) = 256 ^ (m + 1) % 18446744073709551616 := by
  have hp := pow256 m
  have hp7 : (256 : Int) ^ m ≤ 72057594037927936 := by
    have h : (256 : Nat) ^ m ≤ 256 ^ 7 := Nat.pow_le_pow_right (by omega) (by omega)
    have e : (256 : Nat) ^ 7 = 72057594037927936 := by decide
    have e2 : ((256 : Int) ^ m) = ((256 ^ m : Nat) : Int) := by simp
    omega
  have a0 := h0 i
  have a1 := h1 i
  have e1 : worth = 256 ^ m := by rw [hw]; omega
  have x0 : 0 ≤ f i * 256 ^ m := Int.mul_nonneg a0 (by omega)
  have x1 : f i * 256 ^ m ≤ 255 * 256 ^ m := Int.mul_le_mul_of_nonneg_right a1 (by omega)
  have e3 : beF f (i + 1) = beF f i * 256 + f i := rfl
  rw [e1]
  rw [IntKind.wrap_u64, IntKind.wrap_u64, IntKind.wrap_u64, Int.pow_succ]
  refine ⟨?_, ?_, by omega, by omega, rfl⟩
  · omega
  · rw [← hT, e3, Int.add_mul, Int.mul_comm (256 ^ m) 256, ← Int.mul_assoc]
    omega
end Go.Proofs.Ytebgcemglicjiaa

/- The Kraft sum of lengths, as plain Lean. -/
namespace Go.Proofs.Ytebgcemglicjiaa
open Go.RowKit

/-- What a length takes: 2 to the power 15 - x. -/
def pw (x : Int) : Int := if 0 < x then 2 ^ (15 - x).toNat else 0
def fsum (l : List Int) : Int := (l.map pw).sum
def okLen (x : Int) : Bool := decide (0 ≤ x) && decide (x ≤ 15)
def fillE (l : List Int) : Int := if 320 < l.length then 2 else if l.all okLen then 0 else 1
def fillV (l : List Int) : Int := if 320 < l.length then 0 else if l.all okLen then fsum l else 0

theorem pw_bd {x : Int} (h1 : 0 ≤ x) (h2 : x ≤ 15) : 0 ≤ pw x ∧ pw x ≤ 16384 := by
  unfold pw
  split
  · have : x = 1 ∨ x = 2 ∨ x = 3 ∨ x = 4 ∨ x = 5 ∨ x = 6 ∨ x = 7 ∨ x = 8 ∨ x = 9 ∨ x = 10 ∨ x = 11 ∨ x = 12 ∨ x = 13 ∨ x = 14 ∨ x = 15 := by omega
    rcases this with rfl | rfl | rfl | rfl | rfl | rfl | rfl | rfl | rfl | rfl | rfl | rfl | rfl | rfl | rfl <;> decide
  · decide
theorem fsum_append (a b : List Int) : fsum (a ++ b) = fsum a + fsum b := by simp [fsum]
theorem fsum_take (l : List Int) (k : Nat) (x : Int) (h : l[k]? = some x) : fsum (l.take (k + 1)) = fsum (l.take k) + pw x := by
  rw [List.take_add_one, h, fsum_append]; simp [fsum]
theorem fsum_bd (l : List Int) (h : ∀ x ∈ l, 0 ≤ x ∧ x ≤ 15) : 0 ≤ fsum l ∧ fsum l ≤ 16384 * l.length := by
  induction l with
  | nil => simp [fsum]
  | cons a l ih =>
    have h1 := ih (fun x hx => h x (by simp [hx]))
    have h2 := h a (by simp)
    have h3 := pw_bd h2.1 h2.2
    simp only [fsum, List.map_cons, List.sum_cons, List.length_cons] at *
    omega
theorem okLen_iff (x : Int) : okLen x = true ↔ 0 ≤ x ∧ x ≤ 15 := by simp [okLen]
/-- Either all lengths are right, or there is a first one that is not. -/
theorem first_bad (l : List Int) : (∀ x ∈ l, 0 ≤ x ∧ x ≤ 15) ∨ ∃ (j : Nat) (x : Int), l[j]? = some x ∧ (x < 0 ∨ 15 < x) ∧ ∀ (i : Nat) (y : Int), i < j → l[i]? = some y → 0 ≤ y ∧ y ≤ 15 := by
  induction l with
  | nil => left; simp
  | cons a l ih =>
    by_cases ha : 0 ≤ a ∧ a ≤ 15
    · rcases ih with h | ⟨j, x, h1, h2, h3⟩
      · left; intro x hx; rcases List.mem_cons.1 hx with rfl | hx
        · exact ha
        · exact h x hx
      · right
        refine ⟨j + 1, x, by simpa using h1, h2, fun i y hi hy => ?_⟩
        cases i with
        | zero => simp at hy; subst hy; exact ha
        | succ i => exact h3 i y (by omega) (by simpa using hy)
    · right; exact ⟨0, a, rfl, by omega, fun i y hi => by omega⟩
theorem fill_large {l : List Int} (h : 320 < l.length) : fillV l = 0 ∧ fillE l = 2 := by simp [fillV, fillE, h]
theorem fill_ok {l : List Int} (h : l.length ≤ 320) (ha : ∀ x ∈ l, 0 ≤ x ∧ x ≤ 15) : fillV l = fsum l ∧ fillE l = 0 := by
  have : l.all okLen = true := by rw [List.all_eq_true]; intro x hx; exact (okLen_iff x).2 (ha x hx)
  simp only [fillV, fillE, this, if_neg (show ¬ 320 < l.length by omega), if_pos, and_self]
theorem fill_bad {l : List Int} (h : l.length ≤ 320) {j : Nat} {x : Int} (hj : l[j]? = some x) (hx : x < 0 ∨ 15 < x) : fillV l = 0 ∧ fillE l = 1 := by
  have : l.all okLen = false := by
    rw [List.all_eq_false]
    exact ⟨x, List.mem_of_getElem? hj, by rw [okLen_iff]; omega⟩
  simp [fillV, fillE, this, if_neg (show ¬ 320 < l.length by omega)]
/-- The sum, one step: as the walk writes it. -/
theorem pw_step (s x : Int) (h1 : 0 < x) (h2 : x ≤ 15) (h3 : 0 ≤ s) (h4 : s ≤ 16384 * 320) : wrap64 (s + wrap64 (2 ^ (15 - x).toNat)) = s + pw x := by
  have := pw_bd (Int.le_of_lt h1) h2
  have e : pw x = 2 ^ (15 - x).toNat := by unfold pw; rw [if_pos h1]
  rw [← e]
  unfold wrap64
  omega

/-- What the lengths above w take: the reference's sum, level by level. -/
def fabove (w : Int) (l : List Int) : Int := (l.map fun x => if w < x then pw x else 0).sum
def fat (w : Int) (l : List Int) : Int := (l.map fun x => if x = w then pw x else 0).sum
theorem fabove_top (l : List Int) (h : ∀ x ∈ l, 0 ≤ x ∧ x ≤ 15) : fabove 15 l = 0 := by
  induction l with
  | nil => rfl
  | cons a l ih =>
    have h1 := ih (fun x hx => h x (by simp [hx]))
    have h2 := (h a (by simp)).2
    simp only [fabove, List.map_cons, List.sum_cons] at *
    rw [if_neg (by omega), h1]; rfl
theorem fabove_low (l : List Int) (h : ∀ x ∈ l, 0 ≤ x ∧ x ≤ 15) : fabove (-1) l = fsum l := by
  induction l with
  | nil => rfl
  | cons a l ih =>
    have h1 := ih (fun x hx => h x (by simp [hx]))
    have h2 := (h a (by simp)).1
    simp only [fabove, fsum, List.map_cons, List.sum_cons] at *
    rw [if_pos (by omega), h1]
theorem fabove_step (l : List Int) (w : Int) : fabove (w - 1) l = fabove w l + fat w l := by
  induction l with
  | nil => rfl
  | cons a l ih =>
    simp only [fabove, fat, List.map_cons, List.sum_cons] at *
    rw [ih]
    by_cases h1 : a = w
    · subst h1; rw [if_pos (by omega), if_neg (by omega), if_pos rfl]; omega
    · by_cases h2 : w < a
      · rw [if_pos (by omega), if_pos h2, if_neg h1]; omega
      · rw [if_neg (by omega), if_neg h2, if_neg h1]; omega
theorem fat_take (w : Int) (l : List Int) (k : Nat) (x : Int) (h : l[k]? = some x) : fat w (l.take (k + 1)) = fat w (l.take k) + if x = w then pw x else 0 := by
  rw [List.take_add_one, h]; simp [fat]
theorem fat_bd (w : Int) (l : List Int) (h : ∀ x ∈ l, 0 ≤ x ∧ x ≤ 15) : 0 ≤ fat w l ∧ fat w l ≤ 16384 * l.length := by
  induction l with
  | nil => simp [fat]
  | cons a l ih =>
    have h1 := ih (fun x hx => h x (by simp [hx]))
    have h2 := h a (by simp)
    have h3 := pw_bd h2.1 h2.2
    simp only [fat, List.map_cons, List.sum_cons, List.length_cons] at *
    split <;> omega
theorem fabove_bd (w : Int) (l : List Int) (h : ∀ x ∈ l, 0 ≤ x ∧ x ≤ 15) : 0 ≤ fabove w l ∧ fabove w l ≤ 16384 * l.length := by
  induction l with
  | nil => simp [fabove]
  | cons a l ih =>
    have h1 := ih (fun x hx => h x (by simp [hx]))
    have h3 := pw_bd (h a (by simp)).1 (h a (by simp)).2
    simp only [fabove, List.map_cons, List.sum_cons, List.length_cons] at *
    split <;> omega
/-- The step of the reference's sum. -/
theorem pw_step' (s x : Int) (h1 : 0 < x) : s + 2 ^ (15 - x).toNat = s + pw x := by
  unfold pw; rw [if_pos h1]
end Go.Proofs.Ytebgcemglicjiaa

/- Canonical codes: what each length's first code is, and each sign's: plain lists. -/
namespace Go.Proofs.Ytebgcemglicjiaa
open Go.RowKit

/-- What the shorter lengths take, in codes of w bits. -/
def lowW (w : Int) (l : List Int) : Int := (l.map fun x => if 0 < x ∧ x < w then 2 ^ (w - x).toNat else 0).sum
def cntW (w : Int) (l : List Int) : Int := (l.map fun x => if x = w then 1 else 0).sum
/-- What the shorter lengths take, and those of length w. -/
def ahdW (w : Int) (l : List Int) : Int := (l.map fun x => if 0 < x ∧ x < w then 2 ^ (15 - x).toNat else 0).sum
theorem lowW_cons (w a : Int) (l : List Int) : lowW w (a :: l) = (if 0 < a ∧ a < w then 2 ^ (w - a).toNat else 0) + lowW w l := by simp [lowW]
theorem cntW_cons (w a : Int) (l : List Int) : cntW w (a :: l) = (if a = w then 1 else 0) + cntW w l := by simp [cntW]
theorem ahdW_cons (w a : Int) (l : List Int) : ahdW w (a :: l) = (if 0 < a ∧ a < w then 2 ^ (15 - a).toNat else 0) + ahdW w l := by simp [ahdW]
theorem cntW_take (w : Int) (l : List Int) (k : Nat) (x : Int) (h : l[k]? = some x) : cntW w (l.take (k + 1)) = cntW w (l.take k) + if x = w then 1 else 0 := by
  rw [List.take_add_one, h]; simp [cntW]
theorem cntW_bd (w : Int) (l : List Int) : 0 ≤ cntW w l ∧ cntW w l ≤ l.length := by
  induction l with
  | nil => simp [cntW]
  | cons a l ih => rw [cntW_cons, List.length_cons]; split <;> omega
theorem lowW_one (l : List Int) : lowW 1 l = 0 := by
  induction l with
  | nil => rfl
  | cons a l ih => rw [lowW_cons, ih, if_neg (by omega)]; rfl
theorem pow_up {a w : Int} (h : a < w + 1) (_ : ¬ a = w) : (2 : Int) ^ (w + 1 - a).toNat = 2 * 2 ^ (w - a).toNat := by
  rw [show (w + 1 - a).toNat = (w - a).toNat + 1 by omega, Int.pow_succ]; omega
theorem lowW_succ (w : Int) (hw : 0 < w) (l : List Int) : lowW (w + 1) l = 2 * (lowW w l + cntW w l) := by
  induction l with
  | nil => rfl
  | cons a l ih =>
    rw [lowW_cons, lowW_cons, cntW_cons, ih]
    by_cases h : a = w
    · subst h
      rw [if_pos (by omega), if_neg (by omega), if_pos rfl, show (a + 1 - a).toNat = 1 by omega]
      omega
    · rw [if_neg h]
      by_cases h1 : 0 < a ∧ a < w
      · rw [if_pos (by omega), if_pos h1, pow_up (by omega) h]
        omega
      · rw [if_neg (by omega), if_neg h1]
        omega
theorem pow_split {a w : Int} (h : a < w) (hw : w ≤ 15) : (2 : Int) ^ (15 - a).toNat = 2 ^ (15 - w).toNat * 2 ^ (w - a).toNat := by
  rw [← Int.pow_add]; congr 1; omega
theorem ahdW_low (w : Int) (hw : w ≤ 15) (l : List Int) : ahdW w l = 2 ^ (15 - w).toNat * lowW w l := by
  induction l with
  | nil => simp [ahdW, lowW]
  | cons a l ih =>
    rw [ahdW_cons, lowW_cons, ih, Int.mul_add]
    by_cases h1 : 0 < a ∧ a < w
    · rw [if_pos h1, if_pos h1, pow_split h1.2 hw]
    · rw [if_neg h1, if_neg h1]; simp
theorem lowW_nonneg (w : Int) (l : List Int) : 0 ≤ lowW w l := by
  induction l with
  | nil => simp [lowW]
  | cons a l ih =>
    rw [lowW_cons]
    have : (0 : Int) < 2 ^ (w - a).toNat := Int.pow_pos (by decide)
    split <;> omega
/-- The Kraft sum bounds what the lengths up to w take. -/
theorem low_kraft (w : Int) (hw0 : 0 < w) (hw : w ≤ 15) (l : List Int) (hl : ∀ x ∈ l, 0 ≤ x ∧ x ≤ 15) : 2 ^ (15 - w).toNat * (lowW w l + cntW w l) ≤ fsum l := by
  induction l with
  | nil => simp [lowW, cntW, fsum]
  | cons a l ih =>
    have h1 := ih (fun x hx => hl x (by simp [hx]))
    have h2 := hl a (by simp)
    have h3 := pw_bd h2.1 h2.2
    have hf : fsum (a :: l) = pw a + fsum l := by simp [fsum]
    rw [lowW_cons, cntW_cons, hf]
    have key : (2 : Int) ^ (15 - w).toNat * ((if 0 < a ∧ a < w then 2 ^ (w - a).toNat else 0) + (if a = w then 1 else 0)) ≤ pw a := by
      by_cases ha : 0 < a ∧ a < w
      · rw [if_pos ha, if_neg (by omega), Int.add_zero, ← pow_split ha.2 hw]
        unfold pw; rw [if_pos ha.1]; exact Int.le_refl _
      · rw [if_neg ha]
        by_cases e : a = w
        · subst e
          rw [if_pos rfl]; unfold pw; rw [if_pos hw0]; simp
        · rw [if_neg e]; simpa using h3.1
    rw [show ∀ p q r s : Int, p + q + (r + s) = (p + r) + (q + s) from fun p q r s => by omega, Int.mul_add]
    omega
end Go.Proofs.Ytebgcemglicjiaa

/- What a code costs: plain lists. -/
namespace Go.Proofs.Ytebgcemglicjiaa
open Go.RowKit

/-- What is wrong with how often signs come, from the first on. -/
def freqL : List Int → Int
  | [] => 0
  | f :: r => if f < 0 then 1 else if 1048576 < f then 2 else freqL r
def freqE (l : List Int) : Int := if 320 < l.length then 2 else freqL l
theorem freqE_large {l : List Int} (h : 320 < l.length) : freqE l = 2 := if_pos h
theorem freqE_list {l : List Int} (h : ¬ 320 < l.length) : freqE l = freqL l := if_neg h
theorem freqL_drop {l : List Int} {k : Nat} {x : Int} (h : l[k]? = some x) : freqL (l.drop k) = if x < 0 then 1 else if 1048576 < x then 2 else freqL (l.drop (k + 1)) := by
  have hk : k < l.length := (List.getElem?_eq_some_iff.1 h).1
  rw [List.drop_eq_getElem_cons hk]
  have : l[k] = x := by have := List.getElem?_eq_getElem hk; rw [this] at h; injection h
  rw [this]; rfl
theorem freqL_neg {l : List Int} {k : Nat} {x : Int} (h : l[k]? = some x) (hx : x < 0) : freqL (l.drop k) = 1 := by rw [freqL_drop h, if_pos hx]
theorem freqL_big {l : List Int} {k : Nat} {x : Int} (h : l[k]? = some x) (hx : 1048576 < x) : freqL (l.drop k) = 2 := by rw [freqL_drop h, if_neg (by omega), if_pos hx]
theorem freqL_ok {l : List Int} {k : Nat} {x : Int} (h : l[k]? = some x) (h0 : ¬ x < 0) (h1 : ¬ 1048576 < x) : freqL (l.drop k) = freqL (l.drop (k + 1)) := by rw [freqL_drop h, if_neg h0, if_neg h1]
theorem freqL_end {l : List Int} {k : Nat} (h : l.length ≤ k) : freqL (l.drop k) = 0 := by rw [List.drop_eq_nil_of_le h]; rfl
theorem freqL_zero {l : List Int} (h : freqL l = 0) : ∀ x ∈ l, 0 ≤ x ∧ x ≤ 1048576 := by
  induction l with
  | nil => simp
  | cons a r ih =>
    simp only [freqL] at h
    by_cases h0 : a < 0
    · rw [if_pos h0] at h; cases h
    · rw [if_neg h0] at h
      by_cases h1 : 1048576 < a
      · rw [if_pos h1] at h; cases h
      · rw [if_neg h1] at h
        intro x hx
        rcases List.mem_cons.1 hx with rfl | hx
        · omega
        · exact ih h x hx
theorem freqL_cases (l : List Int) : freqL l = 0 ∨ freqL l = 1 ∨ freqL l = 2 := by
  induction l with
  | nil => exact .inl rfl
  | cons a r ih => simp only [freqL]; split; · exact .inr (.inl rfl)
                   split; · exact .inr (.inr rfl)
                   exact ih
theorem freqE_cases (l : List Int) : freqE l = 0 ∨ freqE l = 1 ∨ freqE l = 2 := by
  unfold freqE; split; · exact .inr (.inr rfl)
  exact freqL_cases l
theorem freqE_zero {l : List Int} (h : freqE l = 0) : l.length ≤ 320 ∧ ∀ x ∈ l, 0 ≤ x ∧ x ≤ 1048576 := by
  unfold freqE at h
  split at h
  · cases h
  · exact ⟨by omega, freqL_zero h⟩
theorem fillE_cases (l : List Int) : fillE l = 0 ∨ fillE l = 1 ∨ fillE l = 2 := by
  unfold fillE; split; · exact .inr (.inr rfl)
  split; · exact .inl rfl
  exact .inr (.inl rfl)
theorem fillE_zero {l : List Int} (h : fillE l = 0) : l.length ≤ 320 ∧ ∀ x ∈ l, 0 ≤ x ∧ x ≤ 15 := by
  unfold fillE at h
  split at h
  · cases h
  · split at h
    · rename_i h1
      exact ⟨by omega, fun x hx => (okLen_iff x).1 (List.all_eq_true.1 h1 x hx)⟩
    · cases h
def dot (f l : List Int) : Int := (List.zipWith (· * ·) f l).sum
theorem dot_take {f l : List Int} {k : Nat} {a b : Int} (h : f[k]? = some a) (h' : l[k]? = some b) : dot (f.take (k + 1)) (l.take (k + 1)) = dot (f.take k) (l.take k) + a * b := by
  have hk : k < f.length := (List.getElem?_eq_some_iff.1 h).1
  have hk' : k < l.length := (List.getElem?_eq_some_iff.1 h').1
  unfold dot
  rw [List.take_add_one, List.take_add_one, h, h', List.zipWith_append (by simp; omega)]
  simp
theorem dot_all {f l : List Int} {k : Nat} (h : f.length ≤ k) (h' : l.length ≤ k) : dot (f.take k) (l.take k) = dot f l := by
  rw [List.take_of_length_le h, List.take_of_length_le h']
theorem prod_bd {a b : Int} (h0 : 0 ≤ a) (h1 : a ≤ 1048576) (h2 : 0 ≤ b) (h3 : b ≤ 15) : 0 ≤ a * b ∧ a * b ≤ 15728640 := by
  refine ⟨Int.mul_nonneg h0 h2, ?_⟩
  have := Int.mul_le_mul h1 h3 h2 (by omega)
  omega
/-- The answer. -/
def costE (f l : List Int) : Int := if freqE f ≠ 0 then freqE f else if fillE l ≠ 0 then fillE l else if l.length ≠ f.length then 1 else 0
def costV (f l : List Int) : Int := if freqE f ≠ 0 then 0 else if fillE l ≠ 0 then 0 else if l.length ≠ f.length then 0 else dot f l
theorem cost_freq {f l : List Int} (h : freqE f ≠ 0) : costV f l = 0 ∧ costE f l = freqE f := by unfold costV costE; rw [if_pos h, if_pos h]; exact ⟨rfl, rfl⟩
theorem cost_fill {f l : List Int} (h : freqE f = 0) (h2 : fillE l ≠ 0) : costV f l = 0 ∧ costE f l = fillE l := by unfold costV costE; simp [h, h2]
theorem cost_len {f l : List Int} (h : freqE f = 0) (h2 : fillE l = 0) (h3 : l.length ≠ f.length) : costV f l = 0 ∧ costE f l = 1 := by unfold costV costE; simp [h, h2, h3]
theorem cost_ok {f l : List Int} (h : freqE f = 0) (h2 : fillE l = 0) (h3 : l.length = f.length) : costV f l = dot f l ∧ costE f l = 0 := by unfold costV costE; simp [h, h2, h3]
end Go.Proofs.Ytebgcemglicjiaa

/- Canonical codes: the answer, and the reference's sum: plain lists. -/
namespace Go.Proofs.Ytebgcemglicjiaa
open Go.RowKit

def codeAt (l : List Int) (i : Nat) (w : Int) : Int := if 0 < w then lowW w l + cntW w (l.take i) else 0
def canL (l : List Int) : Nat → List Int
  | 0 => []
  | k + 1 => canL l k ++ [codeAt l k (l.getD k 0)]
theorem canL_succ {l : List Int} {k : Nat} {x : Int} (h : l[k]? = some x) : canL l (k + 1) = canL l k ++ [codeAt l k x] := by
  simp [canL, List.getD_eq_getElem?_getD, h]
theorem canL_length (l : List Int) (k : Nat) : (canL l k).length = k := by
  induction k with
  | zero => rfl
  | succ k ih => simp [canL, ih]
def canE (l : List Int) : Int := if fillE l ≠ 0 then fillE l else if 32768 < fillV l then 6 else 0
def canX (l : List Int) : List Int := if canE l = 0 then canL l l.length else []
theorem can_fill {l : List Int} (h : fillE l ≠ 0) : canE l = fillE l ∧ canX l = [] := by
  have e : canE l = fillE l := by unfold canE; rw [if_pos h]
  exact ⟨e, by unfold canX; rw [e, if_neg h]⟩
theorem can_over {l : List Int} (h : fillE l = 0) (h2 : 32768 < fillV l) : canE l = 6 ∧ canX l = [] := by
  have e : canE l = 6 := by unfold canE; rw [if_neg (by simp [h]), if_pos h2]
  exact ⟨e, by unfold canX; rw [e]; rfl⟩
theorem can_ok {l : List Int} (h : fillE l = 0) (h2 : ¬ 32768 < fillV l) : canE l = 0 ∧ canX l = canL l l.length := by
  have e : canE l = 0 := by unfold canE; rw [if_neg (by simp [h]), if_neg h2]
  exact ⟨e, by unfold canX; rw [if_pos e]⟩
/-- The reference's sum, over the first j signs. -/
def ahd (l : List Int) (i : Nat) (w : Int) (j : Nat) : Int := ahdW w (l.take j) + (if 0 < w then 2 ^ (15 - w).toNat * cntW w (l.take (min i j)) else 0)
theorem ahd_zero (l : List Int) (i : Nat) (w : Int) : ahd l i w 0 = 0 := by
  simp [ahd, ahdW, cntW]
theorem ahdW_take (w : Int) {l : List Int} {j : Nat} {v : Int} (h : l[j]? = some v) : ahdW w (l.take (j + 1)) = ahdW w (l.take j) + (if 0 < v ∧ v < w then 2 ^ (15 - v).toNat else 0) := by
  rw [List.take_add_one, h]; simp [ahdW]
theorem ahd_low {l : List Int} {i : Nat} {w : Int} {j : Nat} {v : Int} (h : l[j]? = some v) (h0 : 0 < v) (h1 : v < w) : ahd l i w (j + 1) = ahd l i w j + 2 ^ (15 - v).toNat := by
  unfold ahd
  rw [ahdW_take w h, if_pos ⟨h0, h1⟩]
  have : cntW w (l.take (min i (j + 1))) = cntW w (l.take (min i j)) := by
    by_cases hj : j < i
    · rw [show min i (j + 1) = j + 1 by omega, show min i j = j by omega, cntW_take w l j v h, if_neg (by omega)]; omega
    · rw [show min i (j + 1) = i by omega, show min i j = i by omega]
  rw [this]; omega
theorem ahd_same {l : List Int} {i : Nat} {w : Int} {j : Nat} (h : l[j]? = some w) (h0 : 0 < w) (hj : j < i) : ahd l i w (j + 1) = ahd l i w j + 2 ^ (15 - w).toNat := by
  unfold ahd
  rw [ahdW_take w h, if_neg (by omega), if_pos h0, if_pos h0, show min i (j + 1) = j + 1 by omega, show min i j = j by omega, cntW_take w l j w h, if_pos rfl, Int.mul_add]
  omega
theorem ahd_skip {l : List Int} {i : Nat} {w : Int} {j : Nat} {v : Int} (h : l[j]? = some v) (hn : ¬ (0 < v ∧ (v < w ∨ (v = w ∧ j < i)))) : ahd l i w (j + 1) = ahd l i w j := by
  unfold ahd
  rw [ahdW_take w h, if_neg (by omega)]
  by_cases h0 : 0 < w
  · rw [if_pos h0, if_pos h0]
    by_cases hj : j < i
    · rw [show min i (j + 1) = j + 1 by omega, show min i j = j by omega, cntW_take w l j v h, if_neg (by omega)]; simp
    · rw [show min i (j + 1) = i by omega, show min i j = i by omega]; omega
  · rw [if_neg h0, if_neg h0]; omega
theorem ahd_code {l : List Int} {i : Nat} {w : Int} (hi : i ≤ l.length) (h0 : 0 < w) (h1 : w ≤ 15) : ahd l i w l.length = 2 ^ (15 - w).toNat * codeAt l i w := by
  unfold ahd codeAt
  rw [List.take_length, if_pos h0, if_pos h0, show min i l.length = i by omega, ahdW_low w h1, ← Int.mul_add]
theorem codeAt_nonneg (l : List Int) (i : Nat) (w : Int) : 0 ≤ codeAt l i w := by
  unfold codeAt
  split
  · have := lowW_nonneg w l; have := (cntW_bd w (l.take i)).1; omega
  · omega
theorem pow15 {v : Int} (h0 : 0 ≤ v) (h1 : v ≤ 15) : (1 : Int) ≤ 2 ^ (15 - v).toNat ∧ (2 : Int) ^ (15 - v).toNat ≤ 32768 := by
  have : v = 0 ∨ v = 1 ∨ v = 2 ∨ v = 3 ∨ v = 4 ∨ v = 5 ∨ v = 6 ∨ v = 7 ∨ v = 8 ∨ v = 9 ∨ v = 10 ∨ v = 11 ∨ v = 12 ∨ v = 13 ∨ v = 14 ∨ v = 15 := by omega
  rcases this with rfl | rfl | rfl | rfl | rfl | rfl | rfl | rfl | rfl | rfl | rfl | rfl | rfl | rfl | rfl | rfl <;> decide
theorem div_code {p c : Int} (hp : 1 ≤ p) (hc : 0 ≤ c) : (p * c).tdiv p = c := by
  rw [Int.tdiv_eq_ediv_of_nonneg (Int.mul_nonneg (by omega) hc), Int.mul_ediv_cancel_left _ (by omega)]
end Go.Proofs.Ytebgcemglicjiaa

/- The lowest w bits of a number, reversed: plain arithmetic. -/
namespace Go.Proofs.Ytebgcemglicjiaa
open Go.RowKit

/-- The lowest k bits of n, the lowest first read as the highest. -/
def flipTo (n : Nat) : Nat → Nat
  | 0 => 0
  | k + 1 => flipTo n k * 2 + n / 2 ^ k % 2
theorem flipTo_lt (n k : Nat) : flipTo n k < 2 ^ k := by
  induction k with
  | zero => simp [flipTo]
  | succ k ih => simp only [flipTo, Nat.pow_succ]; omega
/-- w as Flip takes it. -/
def clamp (w : Int) : Nat := if w < 0 then 0 else if 64 < w then 64 else w.toNat
theorem clamp_le (w : Int) : clamp w ≤ 64 := by unfold clamp; split; omega; split <;> omega
def flip (n : Nat) (w : Int) : Nat := flipTo n (clamp w)
end Go.Proofs.Ytebgcemglicjiaa

/- Reading a varint: which byte ends it, what is wrong with it, what number it is: plain arithmetic over the bytes f 0, f 1, .. -/
namespace Go.Proofs.Ytebgcemglicjiaa
open Go.RowKit

/-- The first place from i on, at most g further, that holds a byte below 128 or lies at the end. -/
def stopAt (f : Nat → Int) (len : Nat) : Nat → Nat → Nat
  | 0, i => i
  | g + 1, i => if i < len ∧ 128 ≤ f i then stopAt f len g (i + 1) else i
def getK (f : Nat → Int) (len : Nat) : Nat := stopAt f len 9 0
def vsum (f : Nat → Int) : Nat → Int
  | 0 => 0
  | k + 1 => vsum f k + (f k % 128) * 128 ^ k
def getE (f : Nat → Int) (len : Nat) : Int :=
  if getK f len = len then 3 else if (getK f len = 9 ∧ 1 < f (getK f len)) ∨ (0 < getK f len ∧ f (getK f len) = 0) then 4 else 0
def getN (f : Nat → Int) (len : Nat) : Int := if getE f len = 0 then (getK f len : Int) + 1 else 0
def getV (f : Nat → Int) (len : Nat) : Int := if getE f len = 0 then vsum f (getK f len + 1) else 0

theorem stopAt_spec (f : Nat → Int) (len : Nat) : ∀ (g i : Nat), i ≤ len → i ≤ stopAt f len g i ∧ stopAt f len g i ≤ i + g ∧ stopAt f len g i ≤ len ∧
    (∀ j, i ≤ j → j < stopAt f len g i → 128 ≤ f j) ∧ (stopAt f len g i < len → stopAt f len g i < i + g → f (stopAt f len g i) < 128) := by
  intro g
  induction g with
  | zero => intro i hi; simp only [stopAt]; exact ⟨by omega, by omega, hi, fun j h1 h2 => by omega, fun _ h => by omega⟩
  | succ g ih =>
    intro i hi
    simp only [stopAt]
    split
    · rename_i h
      obtain ⟨h1, h2, h3, h4, h5⟩ := ih (i + 1) (by omega)
      refine ⟨by omega, by omega, h3, fun j hj1 hj2 => ?_, fun a b => h5 a (by omega)⟩
      by_cases e : j = i
      · subst e; exact h.2
      · exact h4 j (by omega) hj2
    · rename_i h
      exact ⟨by omega, by omega, hi, fun j h1 h2 => by omega, fun a _ => by omega⟩
theorem getK_spec (f : Nat → Int) (len : Nat) : getK f len ≤ 9 ∧ getK f len ≤ len ∧ (∀ j, j < getK f len → 128 ≤ f j) ∧ (getK f len < len → getK f len < 9 → f (getK f len) < 128) := by
  obtain ⟨_, h2, h3, h4, h5⟩ := stopAt_spec f len 9 0 (Nat.zero_le _)
  refine ⟨?_, h3, fun j hj => h4 j (Nat.zero_le _) hj, fun a b => h5 a ?_⟩
  · unfold getK; omega
  · unfold getK at b; omega
theorem pow128 (k : Nat) : (0 : Int) < 128 ^ k := Int.pow_pos (by decide)
theorem vsum_bd (f : Nat → Int) (k : Nat) : 0 ≤ vsum f k ∧ vsum f k < 128 ^ k := by
  induction k with
  | zero => simp [vsum]
  | succ k ih =>
    have h1 := pow128 k
    have h2 : 0 ≤ f k % 128 ∧ f k % 128 ≤ 127 := by omega
    simp only [vsum, Int.pow_succ]
    have h3 : f k % 128 * 128 ^ k ≤ 127 * 128 ^ k := Int.mul_le_mul_of_nonneg_right h2.2 (by omega)
    have h4 : 0 ≤ f k % 128 * 128 ^ k := Int.mul_nonneg h2.1 (by omega)
    omega
theorem vsum_mono (f : Nat → Int) {i k : Nat} (h : i ≤ k) : vsum f i ≤ vsum f k := by
  induction h with
  | refl => exact Int.le_refl _
  | step _ ih =>
    have h1 := pow128
    rename_i k _
    have h4 : 0 ≤ f k % 128 * 128 ^ k := Int.mul_nonneg (by omega) (by have := h1 k; omega)
    simp only [vsum]; omega
/-- Nothing is wrong: the number fits in 64 bits. -/
theorem vsum_top (f : Nat → Int) (len : Nat) (hpos : ∀ j, 0 ≤ f j) (h : getE f len = 0) : vsum f (getK f len + 1) < 18446744073709551616 := by
  obtain ⟨h1, _, _, _⟩ := getK_spec f len
  by_cases h9 : getK f len = 9
  · have hf : ¬ 1 < f 9 := by
      intro hf
      unfold getE at h
      rw [if_pos (Or.inl ⟨h9, by rw [h9]; exact hf⟩)] at h
      split at h <;> simp at h
    rw [h9]
    show vsum f 9 + f 9 % 128 * 128 ^ 9 < _
    have hb := (vsum_bd f 9).2
    have h0 := hpos 9
    have e9 : (128 : Int) ^ 9 = 9223372036854775808 := by decide
    rw [e9] at *
    rcases (show f 9 = 0 ∨ f 9 = 1 by omega) with e | e <;> rw [e] <;> omega
  · have hb := (vsum_bd f (getK f len + 1)).2
    have : (128 : Int) ^ (getK f len + 1) ≤ 128 ^ 9 := by
      have : (128 : Nat) ^ (getK f len + 1) ≤ 128 ^ 9 := Nat.pow_le_pow_right (by omega) (by omega)
      exact_mod_cast this
    have e9 : (128 : Int) ^ 9 = 9223372036854775808 := by decide
    omega
theorem getE_short {f : Nat → Int} {len : Nat} (h : getK f len = len) : getE f len = 3 ∧ getN f len = 0 ∧ getV f len = 0 := by
  have : getE f len = 3 := by unfold getE; rw [if_pos h]
  refine ⟨this, ?_, ?_⟩
  · unfold getN; rw [if_neg (by omega)]
  · unfold getV; rw [if_neg (by omega)]
theorem getE_form {f : Nat → Int} {len : Nat} (h : getK f len ≠ len) (hb : (getK f len = 9 ∧ 1 < f (getK f len)) ∨ (0 < getK f len ∧ f (getK f len) = 0)) : getE f len = 4 ∧ getN f len = 0 ∧ getV f len = 0 := by
  have : getE f len = 4 := by unfold getE; rw [if_neg h, if_pos hb]
  refine ⟨this, ?_, ?_⟩
  · unfold getN; rw [if_neg (by omega)]
  · unfold getV; rw [if_neg (by omega)]
theorem getE_ok {f : Nat → Int} {len : Nat} (h : getK f len ≠ len) (hb : ¬ ((getK f len = 9 ∧ 1 < f (getK f len)) ∨ (0 < getK f len ∧ f (getK f len) = 0))) : getE f len = 0 ∧ getN f len = getK f len + 1 ∧ getV f len = vsum f (getK f len + 1) := by
  have : getE f len = 0 := by unfold getE; rw [if_neg h, if_neg hb]
  refine ⟨this, ?_, ?_⟩
  · unfold getN; rw [if_pos this]
  · unfold getV; rw [if_pos this]
/-- One group of seven bits more, as the code joins it. -/
theorem join7 (v x : Int) (i : Nat) (h0 : 0 ≤ v) (h1 : v < 128 ^ i) (hx0 : 0 ≤ x) (hx : x * 128 ^ i < 18446744073709551616) (hi : i ≤ 9) :
    bits .or .u64 v (IntKind.u64.wrap (x * 2 ^ (7 * i))) = v + x * 128 ^ i := by
  have e : (2 : Int) ^ (7 * i) = 128 ^ i := by rw [Int.pow_mul]; rfl
  obtain ⟨a, rfl⟩ := Int.eq_ofNat_of_zero_le h0
  obtain ⟨b, rfl⟩ := Int.eq_ofNat_of_zero_le hx0
  have ep : (128 : Int) ^ i = ((128 ^ i : Nat) : Int) := by simp
  have e3 : (2 : Nat) ^ (7 * i) = 128 ^ i := by rw [Nat.pow_mul]
  have hp : (128 : Nat) ^ i ≤ 128 ^ 9 := Nat.pow_le_pow_right (by omega) hi
  have hp9 : (128 : Nat) ^ 9 = 9223372036854775808 := by decide
  have key : bits .or .u64 (a : Int) (IntKind.u64.wrap ((b : Int) * ((128 ^ i : Nat) : Int))) = (a : Int) + (b : Int) * ((128 ^ i : Nat) : Int) := by
    rw [ep] at h1 hx
    have hj := nat_join (7 * i) (b * 128 ^ i) a (by rw [e3]; exact Nat.mul_mod_left _ _) (by rw [e3]; omega)
    generalize 128 ^ i = q at *
    rw [show ((b : Int) * (q : Int)) = ((b * q : Nat) : Int) by simp] at *
    rw [IntKind.wrap_u64, show (((b * q : Nat) : Int) % 18446744073709551616) = ((b * q : Nat) : Int) by omega, u64_or_nat _ _ (by omega) (by omega), Nat.or_comm, hj]
    omega
  rw [e, ep]
  exact key
theorem and127 (b : Int) (h0 : 0 ≤ b) (h1 : b ≤ 255) : bits .and .u8 b 127 = b % 128 := by
  rw [u8_and _ _ h0 (by omega) (by decide) (by decide), show (127 : Int).toNat = 127 from rfl, nat_mask7]
  omega
theorem join7b (f : Nat → Int) (i : Nat) (v : Int) (hv : v = vsum f i) (hf0 : 0 ≤ f i) (hf1 : f i ≤ 255) (hi : i ≤ 9) (h9 : i = 9 → f i ≤ 1) :
    bits .or .u64 v (IntKind.u64.wrap (IntKind.u64.wrap (bits .and .u8 (f i) 127) * 2 ^ (7 * i))) = vsum f (i + 1) := by
  rw [and127 _ hf0 hf1, show IntKind.u64.wrap (f i % 128) = f i % 128 by rw [IntKind.wrap_u64]; omega, hv]
  have hb := vsum_bd f i
  refine join7 _ _ i hb.1 hb.2 (by omega) ?_ hi
  by_cases h : i = 9
  · subst h
    have := h9 rfl
    rw [show (128 : Int) ^ 9 = 9223372036854775808 by decide]
    omega
  · have hb1 := vsum_bd f (i + 1)
    have : (128 : Int) ^ (i + 1) ≤ 128 ^ 9 := by
      have : (128 : Nat) ^ (i + 1) ≤ 128 ^ 9 := Nat.pow_le_pow_right (by omega) (by omega)
      exact_mod_cast this
    have e9 : (128 : Int) ^ 9 = 9223372036854775808 := by decide
    have e1 : vsum f (i + 1) = vsum f i + (f i % 128) * 128 ^ i := rfl
    omega
/-- The reference's sum from the top, one step: what is held, and that it fits. -/
theorem horner (f : Nat → Int) (T v : Int) (i : Nat) (h0 : 0 ≤ v) (hv : v * 128 ^ (i + 1) + vsum f (i + 1) = T) (hT : T < 18446744073709551616) :
    (v * 128 + f i % 128) * 128 ^ i + vsum f i = T ∧ v * 128 + f i % 128 ≤ 18446744073709551615 ∧ v * 128 ≤ 18446744073709551615 := by
  have e1 : vsum f (i + 1) = vsum f i + (f i % 128) * 128 ^ i := rfl
  have hp := pow128 i
  have hb := (vsum_bd f i).1
  rw [e1, Int.pow_succ] at hv
  have e2 : (v * 128 + f i % 128) * 128 ^ i = v * (128 ^ i * 128) + f i % 128 * 128 ^ i := by
    rw [Int.add_mul, Int.mul_assoc, Int.mul_comm 128]
  have h2 : (v * 128 + f i % 128) * 128 ^ i + vsum f i = T := by omega
  have h3 : 0 ≤ v * 128 + f i % 128 := by omega
  have h4 : (v * 128 + f i % 128) * 1 ≤ (v * 128 + f i % 128) * 128 ^ i := Int.mul_le_mul_of_nonneg_left (by omega) h3
  refine ⟨h2, ?_, ?_⟩ <;> omega
end Go.Proofs.Ytebgcemglicjiaa

namespace Go.Proofs.Ytebgcemglicjiaa
open Go.RowKit Go.PlainAid

/-- What m run bytes from place k on say. -/
def rrL (s : ByteArray) (k : Nat) : Nat → List Int
  | 0 => []
  | m + 1 => rrL s k m ++ List.replicate (bt s (k + m) % 16 + 1).toNat (bt s (k + m) / 16)
/-- The run that begins at place k + m goes on with a sign that the run ahead could have taken. -/
def RrBad (s : ByteArray) (k m : Nat) : Prop := 0 < m ∧ bt s (k + m) / 16 = bt s (k + m - 1) / 16 ∧ bt s (k + m - 1) % 16 < 15
open Classical in
noncomputable def rr (s : ByteArray) (k n : Nat) : Nat → Nat → Int × Nat
  | 0, m => if (rrL s k m).length = n then (0, m) else (3, m)
  | f + 1, m => if (rrL s k m).length = n then (0, m) else if RrBad s k m ∨ n < (rrL s k (m + 1)).length then (4, m) else rr s k n f (m + 1)
section
variable {s : ByteArray} {k n : Nat}
theorem rr_done {f m : Nat} (h : (rrL s k m).length = n) : rr s k n f m = (0, m) := by
  cases f <;> (unfold rr; rw [if_pos h])
theorem rr_short {m : Nat} (h : (rrL s k m).length ≠ n) : rr s k n 0 m = (3, m) := by unfold rr; rw [if_neg h]
theorem rr_form {f m : Nat} (h : (rrL s k m).length ≠ n) (hb : RrBad s k m ∨ n < (rrL s k (m + 1)).length) : rr s k n (f + 1) m = (4, m) := by rw [rr, if_neg h, if_pos hb]
theorem rr_go {f m : Nat} (h : (rrL s k m).length ≠ n) (hb : ¬ (RrBad s k m ∨ n < (rrL s k (m + 1)).length)) : rr s k n (f + 1) m = rr s k n f (m + 1) := by rw [rr, if_neg h, if_neg hb]
theorem rrL_length_succ (m : Nat) : (rrL s k (m + 1)).length = (rrL s k m).length + (bt s (k + m) % 16 + 1).toNat := by simp [rrL]
theorem rrL_ge (m : Nat) : m ≤ (rrL s k m).length := by
  induction m with
  | zero => exact Nat.zero_le _
  | succ m ih =>
    rw [rrL_length_succ]
    have := bt_nonneg s (k + m)
    omega
theorem rrL_pos {m : Nat} : 0 < (rrL s k m).length ↔ 0 < m := by
  constructor
  · intro h
    cases m with
    | zero => simp [rrL] at h
    | succ m => omega
  · intro h; have := rrL_ge (s := s) (k := k) m; omega
end
/-- The answer. -/
noncomputable def rrR (s : ByteArray) : Int × Nat := rr s (getN (bt s) s.size).toNat (getV (bt s) s.size).toNat (s.size - (getN (bt s) s.size).toNat) 0
noncomputable def rrE (s : ByteArray) : Int := if getE (bt s) s.size ≠ 0 then getE (bt s) s.size else if 320 < getV (bt s) s.size then 2 else (rrR s).1
noncomputable def rrAt (s : ByteArray) : Int := if rrE s = 0 then getN (bt s) s.size + (rrR s).2 else 0
noncomputable def rrX (s : ByteArray) : List Int := if rrE s = 0 then rrL s (getN (bt s) s.size).toNat (rrR s).2 else []
theorem rr_get {s : ByteArray} (h : getE (bt s) s.size ≠ 0) : rrE s = getE (bt s) s.size ∧ rrAt s = 0 ∧ rrX s = [] := by
  have e : rrE s = getE (bt s) s.size := by unfold rrE; rw [if_pos h]
  have : rrE s ≠ 0 := by rw [e]; exact h
  exact ⟨e, by unfold rrAt; rw [if_neg this], by unfold rrX; rw [if_neg this]⟩
theorem rr_large {s : ByteArray} (h : getE (bt s) s.size = 0) (h2 : 320 < getV (bt s) s.size) : rrE s = 2 ∧ rrAt s = 0 ∧ rrX s = [] := by
  have e : rrE s = 2 := by unfold rrE; rw [if_neg (by simp [h]), if_pos h2]
  have : rrE s ≠ 0 := by rw [e]; decide
  exact ⟨e, by unfold rrAt; rw [if_neg this], by unfold rrX; rw [if_neg this]⟩
theorem rr_err {s : ByteArray} (h : getE (bt s) s.size = 0) (h2 : ¬ 320 < getV (bt s) s.size) {e : Int} {m : Nat} (he : e ≠ 0) (hr : rrR s = (e, m)) : rrE s = e ∧ rrAt s = 0 ∧ rrX s = [] := by
  have e' : rrE s = e := by unfold rrE; rw [if_neg (by simp [h]), if_neg h2, hr]
  have : rrE s ≠ 0 := by rw [e']; exact he
  exact ⟨e', by unfold rrAt; rw [if_neg this], by unfold rrX; rw [if_neg this]⟩
theorem rr_ok {s : ByteArray} (h : getE (bt s) s.size = 0) (h2 : ¬ 320 < getV (bt s) s.size) {m : Nat} (hr : rrR s = (0, m)) : rrE s = 0 ∧ rrAt s = getN (bt s) s.size + m ∧ rrX s = rrL s (getN (bt s) s.size).toNat m := by
  have e' : rrE s = 0 := by unfold rrE; rw [if_neg (by simp [h]), if_neg h2, hr]
  exact ⟨e', by unfold rrAt; rw [if_pos e', hr], by unfold rrX; rw [if_pos e', hr]⟩
theorem get_end {s : ByteArray} (h : getE (bt s) s.size = 0) : 1 ≤ getN (bt s) s.size ∧ getN (bt s) s.size ≤ s.size := by
  have hk := getK_spec (bt s) s.size
  have : getN (bt s) s.size = (getK (bt s) s.size : Int) + 1 := by unfold getN; rw [if_pos h]
  have hne : getK (bt s) s.size ≠ s.size := fun e => by have := (getE_short e).1; omega
  omega
end Go.Proofs.Ytebgcemglicjiaa
