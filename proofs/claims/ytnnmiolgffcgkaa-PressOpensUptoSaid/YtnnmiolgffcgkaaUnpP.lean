/- Numbers out of a text's bits: plain. -/
import Derived.Test.YtnnmiolgffcgkaaCwP
import Derived.Test.YtnnmiolgffcgkaaBtP
namespace Go.Proofs.Ytnnmiolgffcgkaa
open Go.RowKit Go.PlainAid

/-- Bit i of a text. -/
def tb (s : ByteArray) (i : Nat) : Int := bt s (i / 8) / 2 ^ (i % 8) % 2
theorem tb_bd (s : ByteArray) (i : Nat) : 0 ≤ tb s i ∧ tb s i ≤ 1 := by unfold tb; omega
/-- The number of w bits from place a on, the lowest first. -/
def tn (s : ByteArray) (a : Nat) : Nat → Int
  | 0 => 0
  | w + 1 => tn s a w + tb s (a + w) * 2 ^ w
theorem tn_bd (s : ByteArray) (a : Nat) : ∀ w, 0 ≤ tn s a w ∧ tn s a w < 2 ^ w
  | 0 => by simp [tn]
  | w + 1 => by
    have ih := tn_bd s a w
    have h := tb_bd s (a + w)
    have hp : (0 : Int) < 2 ^ w := Int.pow_pos (by decide)
    simp only [tn, Int.pow_succ]
    rcases (show tb s (a + w) = 0 ∨ tb s (a + w) = 1 by omega) with e | e <;> rw [e] <;> omega
theorem tn_add (s : ByteArray) (a m : Nat) : ∀ n, tn s a (m + n) = tn s a m + tn s (a + m) n * 2 ^ m
  | 0 => by simp [tn]
  | n + 1 => by
    have ih := tn_add s a m n
    have e : tn s a (m + (n + 1)) = tn s a (m + n) + tb s (a + (m + n)) * 2 ^ (m + n) := rfl
    rw [e, ih]
    simp only [tn]
    rw [show a + m + n = a + (m + n) by omega, Int.add_mul, Int.pow_add, Int.mul_assoc _ (2 ^ n) (2 ^ m), Int.mul_comm (2 ^ n) (2 ^ m)]
    omega
theorem mod_pow_succ (x : Int) (k : Nat) : x % 2 ^ (k + 1) = x % 2 ^ k + x / 2 ^ k % 2 * 2 ^ k := by
  have hp : (0 : Int) < 2 ^ k := Int.pow_pos (by decide)
  rw [Int.pow_succ]
  have h1 := Int.emod_add_mul_ediv x (2 ^ k)
  have h2 := Int.emod_add_mul_ediv (x / 2 ^ k) 2
  have h3 := Int.emod_nonneg x (show (2 : Int) ^ k ≠ 0 by omega)
  have h4 := Int.emod_lt_of_pos x hp
  have h5 : x = (x % 2 ^ k + x / 2 ^ k % 2 * 2 ^ k) + (2 ^ k * 2) * (x / 2 ^ k / 2) := by
    have e : x / 2 ^ k = x / 2 ^ k % 2 + 2 * (x / 2 ^ k / 2) := h2.symm
    have e2 : 2 ^ k * (x / 2 ^ k) = x / 2 ^ k % 2 * 2 ^ k + 2 ^ k * 2 * (x / 2 ^ k / 2) := by
      conv => lhs; rw [e]
      rw [Int.mul_add, Int.mul_comm (2 ^ k) (x / 2 ^ k % 2), Int.mul_assoc]
    omega
  have h6 := Int.emod_nonneg (x / 2 ^ k) (show (2 : Int) ≠ 0 by decide)
  have h7 := Int.emod_lt_of_pos (x / 2 ^ k) (show (0 : Int) < 2 by decide)
  have h8 : 0 ≤ x % 2 ^ k + x / 2 ^ k % 2 * 2 ^ k ∧ x % 2 ^ k + x / 2 ^ k % 2 * 2 ^ k < 2 ^ k * 2 := by
    rcases (show x / 2 ^ k % 2 = 0 ∨ x / 2 ^ k % 2 = 1 by omega) with e | e <;> rw [e] <;> omega
  conv => lhs; rw [h5]
  rw [Int.add_mul_emod_self_left]
  exact Int.emod_eq_of_lt h8.1 h8.2
theorem div_pow_pow (x : Int) (a b : Nat) : x / 2 ^ a / 2 ^ b = x / 2 ^ (a + b) := by
  rw [Int.ediv_ediv_of_nonneg (Int.le_of_lt (Int.pow_pos (by decide))), ← Int.pow_add]
/-- Bits within one byte. -/
theorem tn_byte (s : ByteArray) (a : Nat) : ∀ t, a % 8 + t ≤ 8 → tn s a t = bt s (a / 8) / 2 ^ (a % 8) % 2 ^ t
  | 0, _ => by simp [tn, Int.emod_one]
  | t + 1, h => by
    have ih := tn_byte s a t (by omega)
    simp only [tn]
    rw [ih, mod_pow_succ, div_pow_pow]
    unfold tb
    rw [show (a + t) / 8 = a / 8 by omega, show (a + t) % 8 = a % 8 + t by omega]
theorem tn_one (s : ByteArray) (a : Nat) : tn s a 1 = tb s a := by simp [tn]
/-- The bits of a text, one by one. -/
def tbL (s : ByteArray) : List Int := (List.range (8 * s.size)).map (tb s)
theorem tbL_length (s : ByteArray) : (tbL s).length = 8 * s.size := by simp [tbL]
theorem horn_snoc : ∀ (l : List Int) (x : Int), horn (l ++ [x]) = horn l + x * 2 ^ l.length
  | [], x => by simp [horn]
  | y :: r, x => by
    simp only [List.cons_append, horn, List.length_cons, horn_snoc r x, Int.pow_succ]
    rw [← Int.mul_assoc]
    generalize x * 2 ^ r.length = z
    omega
theorem horn_tn (s : ByteArray) (a : Nat) : ∀ w, horn ((List.range w).map fun j => tb s (a + j)) = tn s a w
  | 0 => rfl
  | w + 1 => by
    rw [List.range_succ, List.map_append, List.map_cons, List.map_nil, horn_snoc, horn_tn s a w]
    simp [tn]
theorem tbL_cut (s : ByteArray) (a w : Nat) (h : a + w ≤ 8 * s.size) : ((tbL s).drop a).take w = (List.range w).map fun j => tb s (a + j) := by
  apply List.ext_getElem?
  intro i
  by_cases hi : i < w
  · rw [List.getElem?_take, if_pos hi, List.getElem?_drop]
    unfold tbL
    rw [List.getElem?_map, List.getElem?_range (by omega), List.getElem?_map, List.getElem?_range hi]; rfl
  · rw [List.getElem?_eq_none (by rw [List.length_take]; omega), List.getElem?_eq_none (by simp; omega)]
theorem horn_cut (s : ByteArray) (a w : Nat) (h : a + w ≤ 8 * s.size) : horn (((tbL s).drop a).take w) = tn s a w := by rw [tbL_cut s a w h, horn_tn]
theorem tbL_bit (s : ByteArray) : ∀ x ∈ tbL s, 0 ≤ x ∧ x ≤ 1 := fun x hx => by
  obtain ⟨i, _, rfl⟩ := List.mem_map.1 hx; exact tb_bd s i

/-- The widths' sum; what Unpack says of them; the numbers. -/
def wsum : List Int → Nat
  | [] => 0
  | x :: r => x.toNat + wsum r
def WOk (x : Int) : Prop := 0 ≤ x ∧ x ≤ 64
theorem wsum_append (a b : List Int) : wsum (a ++ b) = wsum a + wsum b := by
  induction a with
  | nil => simp [wsum]
  | cons x r ih => simp only [List.cons_append, wsum, ih]; omega
theorem wsum_succ {l : List Int} {i : Nat} {x : Int} (h : l[i]? = some x) : wsum (l.take (i + 1)) = wsum (l.take i) + x.toNat := by
  rw [List.take_add_one, h, wsum_append]; simp [wsum]
theorem wsum_le {l : List Int} : ∀ i, i ≤ l.length → wsum (l.take i) ≤ wsum l := fun i _ => by
  conv => rhs; rw [← List.take_append_drop i l]
  rw [wsum_append]; omega
theorem wsum_bd {l : List Int} (h : ∀ x ∈ l, WOk x) : wsum l ≤ 64 * l.length := by
  induction l with
  | nil => simp [wsum]
  | cons x r ih =>
    have h1 := (h x (by simp)).2
    have := ih (fun y hy => h y (by simp [hy]))
    simp only [wsum, List.length_cons]; omega
open Classical in
noncomputable def unpE (s : ByteArray) (ws : List Int) : Int := if ∀ x ∈ ws, WOk x then if 8 * s.size < wsum ws then 3 else 0 else 1
def unN (s : ByteArray) (ws : List Int) (k : Nat) : List Int := (List.range k).map fun i => tn s (wsum (ws.take i)) (ws.getD i 0).toNat
noncomputable def unpX (s : ByteArray) (ws : List Int) : List Int := if unpE s ws = 0 then unN s ws ws.length else []
theorem unN_length (s : ByteArray) (ws : List Int) (k : Nat) : (unN s ws k).length = k := by simp [unN]
theorem unN_succ {s : ByteArray} {ws : List Int} {k : Nat} {x : Int} (h : ws[k]? = some x) : unN s ws (k + 1) = unN s ws k ++ [tn s (wsum (ws.take k)) x.toNat] := by
  unfold unN; rw [List.range_succ, List.map_append]; simp [List.getD_eq_getElem?_getD, h]
theorem unp_arg {s : ByteArray} {ws : List Int} {i : Nat} {x : Int} (h : ws[i]? = some x) (hx : ¬ WOk x) : unpE s ws = 1 ∧ unpX s ws = [] := by
  have e : unpE s ws = 1 := by
    unfold unpE; rw [if_neg fun k => hx (k x (List.mem_iff_getElem?.2 ⟨i, h⟩))]
  exact ⟨e, by unfold unpX; rw [e]; rfl⟩
theorem unp_short {s : ByteArray} {ws : List Int} (h : ∀ x ∈ ws, WOk x) (h2 : 8 * s.size < wsum ws) : unpE s ws = 3 ∧ unpX s ws = [] := by
  have e : unpE s ws = 3 := by unfold unpE; rw [if_pos h, if_pos h2]
  exact ⟨e, by unfold unpX; rw [e]; rfl⟩
theorem unp_ok {s : ByteArray} {ws : List Int} (h : ∀ x ∈ ws, WOk x) (h2 : ¬ 8 * s.size < wsum ws) : unpE s ws = 0 ∧ unpX s ws = unN s ws ws.length := by
  have e : unpE s ws = 0 := by unfold unpE; rw [if_pos h, if_neg h2]
  exact ⟨e, by unfold unpX; rw [e]; rfl⟩
end Go.Proofs.Ytnnmiolgffcgkaa
