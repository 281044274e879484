/- Numbers as bits, one behind the other: plain. -/
import Derived.Test.YtnnmiolgffcgkaaUnpP
import Derived.Test.YtnnmiolgffcgkaaTypes
namespace Go.Proofs.Ytnnmiolgffcgkaa
open Go.RowKit Go.PlainAid

/-- The lowest w bits of v, the lowest first. -/
def pbits (v : Int) : Nat → List Int
  | 0 => []
  | w + 1 => (v % 2) :: pbits (v / 2) w
theorem pbits_len : ∀ (w : Nat) (v : Int), (pbits v w).length = w
  | 0, _ => rfl
  | w + 1, v => by simp [pbits, pbits_len w]
theorem pbits_bit : ∀ (w : Nat) (v : Int), ∀ x ∈ pbits v w, 0 ≤ x ∧ x ≤ 1
  | 0, _, x, h => by simp [pbits] at h
  | w + 1, v, x, h => by
    simp only [pbits, List.mem_cons] at h
    rcases h with rfl | h
    · omega
    · exact pbits_bit w _ x h
theorem horn_pbits : ∀ (w : Nat) (v : Int), 0 ≤ v → v < 2 ^ w → horn (pbits v w) = v
  | 0, v, h0, h1 => by simp at h1; simp [pbits, horn]; omega
  | w + 1, v, h0, h1 => by
    rw [Int.pow_succ] at h1
    simp only [pbits, horn]
    rw [horn_pbits w (v / 2) (by omega) (by omega)]
    omega
theorem pbits_snoc : ∀ (w : Nat) (v : Int), pbits v (w + 1) = pbits v w ++ [v / 2 ^ w % 2]
  | 0, v => by simp [pbits]
  | w + 1, v => by
    have ih := pbits_snoc w (v / 2)
    have e : pbits v (w + 1 + 1) = (v % 2) :: pbits (v / 2) (w + 1) := rfl
    rw [e, ih]
    simp only [pbits, List.cons_append]
    rw [show v / 2 / 2 ^ w = v / 2 ^ (w + 1) by rw [Int.ediv_ediv_of_nonneg (by decide), Int.pow_succ, Int.mul_comm]]
theorem pbits_add : ∀ (n m : Nat) (v : Int), pbits v (n + m) = pbits v n ++ pbits (v / 2 ^ n) m
  | 0, m, v => by simp [pbits]
  | n + 1, m, v => by
    rw [show n + 1 + m = (n + m) + 1 by omega]
    simp only [pbits, List.cons_append]
    rw [pbits_add n m (v / 2), Int.ediv_ediv_of_nonneg (by decide), Int.pow_succ, Int.mul_comm]
theorem pbits_mod : ∀ (n : Nat) (v : Int), pbits (v % 2 ^ n) n = pbits v n
  | 0, v => rfl
  | n + 1, v => by
    simp only [pbits]
    have hp : (0 : Int) < 2 ^ n := Int.pow_pos (by decide)
    have e1 : v % 2 ^ (n + 1) % 2 = v % 2 := by rw [Int.pow_succ, Int.emod_emod_of_dvd]; exact Int.dvd_mul_left _ _
    have e2 : v % 2 ^ (n + 1) / 2 = v / 2 % 2 ^ n := by
      have h := Int.emod_add_mul_ediv v (2 ^ (n + 1))
      have h1 := Int.emod_nonneg v (show (2 : Int) ^ (n + 1) ≠ 0 by rw [Int.pow_succ]; omega)
      have h2 := Int.emod_lt_of_pos v (show (0 : Int) < 2 ^ (n + 1) by rw [Int.pow_succ]; omega)
      have h3 : v / 2 = v % 2 ^ (n + 1) / 2 + 2 ^ n * (v / 2 ^ (n + 1)) := by
        rw [Int.pow_succ, Int.mul_comm (2 ^ n) 2, Int.mul_assoc] at h
        rw [Int.pow_succ, Int.mul_comm (2 ^ n) 2]
        omega
      rw [h3, Int.add_mul_emod_self_left]
      rw [Int.pow_succ] at h2
      exact (Int.emod_eq_of_lt (by omega) (by rw [Int.pow_succ] at *; omega)).symm
    rw [e1, e2, pbits_mod n (v / 2)]
theorem horn_split : ∀ (l : List Int) (n : Nat), horn l = horn (l.take n) + 2 ^ (l.take n).length * horn (l.drop n)
  | [], n => by simp [horn]
  | x :: r, 0 => by simp [horn]
  | x :: r, n + 1 => by
    have ih := horn_split r n
    simp only [List.take_succ_cons, List.drop_succ_cons, horn, List.length_cons, Int.pow_succ]
    rw [ih, Int.mul_add, Int.mul_comm (2 ^ (r.take n).length) 2, Int.mul_assoc]
    omega
theorem horn_app (a b : List Int) : horn (a ++ b) = horn a + 2 ^ a.length * horn b := by
  have := horn_split (a ++ b) a.length
  simpa using this
/-- Byte j of a list of bits. -/
def byteL (L : List Int) (j : Nat) : Int := horn ((L.drop (8 * j)).take 8)
def Bits01 (L : List Int) : Prop := ∀ x ∈ L, 0 ≤ x ∧ x ≤ 1
theorem Bits01.drop {L : List Int} (h : Bits01 L) (n : Nat) : Bits01 (L.drop n) := fun x hx => h x (List.mem_of_mem_drop hx)
theorem Bits01.take {L : List Int} (h : Bits01 L) (n : Nat) : Bits01 (L.take n) := fun x hx => h x (List.mem_of_mem_take hx)
theorem Bits01.app {a b : List Int} (h : Bits01 a) (h2 : Bits01 b) : Bits01 (a ++ b) := fun x hx => by
  rcases List.mem_append.1 hx with h3 | h3
  · exact h x h3
  · exact h2 x h3
theorem byteL_bd {L : List Int} (h : Bits01 L) (j : Nat) : 0 ≤ byteL L j ∧ byteL L j < 256 := by
  have h1 := horn_bd _ ((h.drop (8 * j)).take 8)
  have h2 : (2 : Nat) ^ ((L.drop (8 * j)).take 8).length ≤ 2 ^ 8 := Nat.pow_le_pow_right (by omega) (by rw [List.length_take]; omega)
  have h3 : ((2 ^ ((L.drop (8 * j)).take 8).length : Nat) : Int) ≤ ((2 ^ 8 : Nat) : Int) := by exact_mod_cast h2
  have h4 : (2 : Int) ^ ((L.drop (8 * j)).take 8).length ≤ 256 := by simpa using h3
  unfold byteL; omega
/-- What is held behind q bytes. -/
def heldL (L : List Int) (q : Nat) : Int := horn (L.drop (8 * q))
theorem held_step {L : List Int} (h : Bits01 L) {q : Nat} (hq : 8 * q + 8 ≤ L.length) : heldL L q % 256 = byteL L q ∧ heldL L q / 256 = heldL L (q + 1) := by
  have h1 := horn_split (L.drop (8 * q)) 8
  have hl : ((L.drop (8 * q)).take 8).length = 8 := by rw [List.length_take, List.length_drop]; omega
  rw [hl, List.drop_drop] at h1
  have hb := byteL_bd h q
  unfold heldL byteL at *
  rw [show 8 * (q + 1) = 8 * q + 8 by omega, h1]
  generalize horn ((L.drop (8 * q)).take 8) = x at *
  generalize horn (L.drop (8 * q + 8)) = y at *
  omega
theorem held_last {L : List Int} {q : Nat} (hq : L.length < 8 * q + 8) : heldL L q = byteL L q := by
  unfold heldL byteL
  rw [List.take_of_length_le (by rw [List.length_drop]; omega)]
theorem held_bd {L : List Int} (h : Bits01 L) (q : Nat) : 0 ≤ heldL L q ∧ heldL L q < 2 ^ (L.length - 8 * q) := by
  have := horn_bd _ (h.drop (8 * q))
  rw [List.length_drop] at this; exact this
theorem held_app {L : List Int} {q : Nat} (hq : 8 * q ≤ L.length) (P : List Int) : heldL (L ++ P) q = heldL L q + horn P * 2 ^ (L.length - 8 * q) := by
  unfold heldL
  rw [List.drop_append_of_le_length hq, horn_app, List.length_drop, Int.mul_comm]
/-- The first q bytes. -/
def bytL (L : List Int) (q : Nat) : List Int := (List.range q).map (byteL L)
theorem bytL_len (L : List Int) (q : Nat) : (bytL L q).length = q := by simp [bytL]
theorem bytL_succ (L : List Int) (q : Nat) : bytL L (q + 1) = bytL L q ++ [byteL L q] := by simp [bytL, List.range_succ]
theorem bytL_app {L : List Int} {q : Nat} (hq : 8 * q ≤ L.length) (P : List Int) : bytL (L ++ P) q = bytL L q := by
  unfold bytL
  apply List.map_congr_left
  intro j hj
  have hj := List.mem_range.1 hj
  unfold byteL
  rw [List.drop_append_of_le_length (by omega), List.take_append_of_le_length (by rw [List.length_drop]; omega)]
theorem or_shiftP (a b : Int) (k t : Nat) (ha0 : 0 ≤ a) (ha1 : a < 2 ^ k) (hb0 : 0 ≤ b) (hb1 : b < 2 ^ t) (hk : k + t ≤ 64) : bits .or .u64 a (IntKind.u64.wrap (b * 2 ^ k)) = a + b * 2 ^ k := by
  obtain ⟨x, rfl⟩ := Int.eq_ofNat_of_zero_le ha0
  obtain ⟨y, rfl⟩ := Int.eq_ofNat_of_zero_le hb0
  have ek : ((2 : Int) ^ k) = ((2 ^ k : Nat) : Int) := by simp
  have et : ((2 : Int) ^ t) = ((2 ^ t : Nat) : Int) := by simp
  rw [ek] at ha1 ⊢
  rw [et] at hb1
  have h1 : x < 2 ^ k := by omega
  have h2 : y < 2 ^ t := by omega
  have h3 : (2 : Nat) ^ k * 2 ^ t ≤ 2 ^ 64 := by rw [← Nat.pow_add]; exact Nat.pow_le_pow_right (by omega) hk
  have h4 : y + 1 ≤ 2 ^ t := h2
  have h5 : 2 ^ k * (y + 1) ≤ 2 ^ k * 2 ^ t := Nat.mul_le_mul_left _ h4
  rw [Nat.mul_add, Nat.mul_one] at h5
  have h6 : x + 2 ^ k * y < 18446744073709551616 := by
    have : (2 : Nat) ^ 64 = 18446744073709551616 := rfl
    omega
  have e1 : (y : Int) * ((2 ^ k : Nat) : Int) = ((2 ^ k * y : Nat) : Int) := by rw [Nat.mul_comm]; simp
  rw [e1]
  have e2 : IntKind.u64.wrap ((2 ^ k * y : Nat) : Int) = ((2 ^ k * y : Nat) : Int) := by
    generalize 2 ^ k * y = z at *
    rw [IntKind.wrap_u64]; omega
  rw [e2, u64_or_nat _ _ (by omega) (by omega), Nat.or_comm, ← Nat.two_pow_add_eq_or_of_lt h1]
  omega
end Go.Proofs.Ytnnmiolgffcgkaa
