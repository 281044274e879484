/- What is read, sign by sign: plain. -/
import Derived.Test.YtebgcemglicjiaaPlJb
import Derived.Test.YtebgcemglicjiaaBtP
/- Numbers out of a text's bits: plain. -/
namespace Go.Proofs.Ytebgcemglicjiaa
open Go.RowKit Go.PlainAid

/-- Bit i of a text. -/
def tb (s : ByteArray) (i : Nat) : Int := bt s (i / 8) / 2 ^ (i % 8) % 2
theorem tb_bd (s : ByteArray) (i : Nat) : 0 ≤ tb s i ∧ tb s i ≤ 1 := by unfold tb; omega
/-- The number of w bits from place a on, the lowest first. -/
def tn (s : ByteArray) (a : Nat) : Nat → Int
  | 0 => 0
  | w + 1 => tn s a w + tb s (a + w) * 2 ^ w
theorem tn_bd (s : ByteArray) (a : Nat) : ∀ w, 0 ≤ tn s a w ∧ tn s a w < 2 ^ w
  | 0 => by simp [tn]
  | w + 1 => by
    have ih := tn_bd s a w
    have h := tb_bd s (a + w)
    have hp : (0 : Int) < 2 ^ w := Int.pow_pos (by decide)
    simp only [tn, Int.pow_succ]
    rcases (show tb s (a + w) = 0 ∨ tb s (a + w) = 1 by omega) with e | e <;> rw [e] <;> omega
theorem tn_add (s : ByteArray) (a m : Nat) : ∀ n, tn s a (m + n) = tn s a m + tn s (a + m) n * 2 ^ m
  | 0 => by simp [tn]
  | n + 1 => by
    have ih := tn_add s a m n
    have e : tn s a (m + (n + 1)) = tn s a (m + n) + tb s (a + (m + n)) * 2 ^ (m + n) := rfl
    rw [e, ih]
    simp only [tn]
    rw [show a + m + n = a + (m + n) by omega, Int.add_mul, Int.pow_add, Int.mul_assoc _ (2 ^ n) (2 ^ m), Int.mul_comm (2 ^ n) (2 ^ m)]
    omega
theorem mod_pow_succ (x : Int) (k : Nat) : x % 2 ^ (k + 1) = x % 2 ^ k + x / 2 ^ k % 2 * 2 ^ k := by
  have hp : (0 : Int) < 2 ^ k := Int.pow_pos (by decide)
  rw [Int.pow_succ]
  have h1 := Int.emod_add_mul_ediv x (2 ^ k)
  have h2 := Int.emod_add_mul_ediv (x / 2 ^ k) 2
  have h3 := Int.emod_nonneg x (show (2 : Int) ^ k ≠ 0 by omega)
  have h4 := Int.emod_lt_of_pos x hp
  have h5 : x = (x % 2 ^ k + x / 2 ^ k % 2 * 2 ^ k) + (2 ^ k * 2) * (x / 2 ^ k / 2) := by
    have e : x / 2 ^ k = x / 2 ^ k % 2 + 2 * (x / 2 ^ k / 2) := h2.symm
    have e2 : 2 ^ k * (x / 2 ^ k) = x / 2 ^ k % 2 * 2 ^ k + 2 ^ k * 2 * (x / 2 ^ k / 2) := by
      conv => lhs; rw [e]
      rw [Int.mul_add, Int.mul_comm (2 ^ k) (x / 2 ^ k % 2), Int.mul_assoc]
    omega
  have h6 := Int.emod_nonneg (x / 2 ^ k) (show (2 : Int) ≠ 0 by decide)
  have h7 := Int.emod_lt_of_pos (x / 2 ^ k) (show (0 : Int) < 2 by decide)
  have h8 : 0 ≤ x % 2 ^ k + x / 2 ^ k % 2 * 2 ^ k ∧ x % 2 ^ k + x / 2 ^ k % 2 * 2 ^ k < 2 ^ k * 2 := by
    rcases (show x / 2 ^ k % 2 = 0 ∨ x / 2 ^ k % 2 = 1 by omega) with e | e <;> rw [e] <;> omega
  conv => lhs; rw [h5]
  rw [Int.add_mul_emod_self_left]
  exact Int.emod_eq_of_lt h8.1 h8.2
theorem div_pow_pow (x : Int) (a b : Nat) : x / 2 ^ a / 2 ^ b = x / 2 ^ (a + b) := by
  rw [Int.ediv_ediv_of_nonneg (Int.le_of_lt (Int.pow_pos (by decide))), ← Int.pow_add]
/-- Bits within one byte. -/
theorem tn_byte (s : ByteArray) (a : Nat) : ∀ t, a % 8 + t ≤ 8 → tn s a t = bt s (a / 8) / 2 ^ (a % 8) % 2 ^ t
  | 0, _ => by simp [tn, Int.emod_one]
  | t + 1, h => by
    have ih := tn_byte s a t (by omega)
    simp only [tn]
    rw [ih, mod_pow_succ, div_pow_pow]
    unfold tb
    rw [show (a + t) / 8 = a / 8 by omega, show (a + t) % 8 = a % 8 + t by omega]
theorem tn_one (s : ByteArray) (a : Nat) : tn s a 1 = tb s a := by simp [tn]
/-- The bits of a text, one by one. -/
def tbL (s : ByteArray) : List Int := (List.range (8 * s.size)).map (tb s)
theorem tbL_length (s : ByteArray) : (tbL s).length = 8 * s.size := by simp [tbL]
theorem horn_snoc : ∀ (l : List Int) (x : Int), horn (l ++ [x]) = horn l + x * 2 ^ l.length
  | [], x => by simp [horn]
  | y :: r, x => by
    simp only [List.cons_append, horn, List.length_cons, horn_snoc r x, Int.pow_succ]
    rw [← Int.mul_assoc]
    generalize x * 2 ^ r.length = z
    omega
theorem horn_tn (s : ByteArray) (a : Nat) : ∀ w, horn ((List.range w).map fun j => tb s (a + j)) = tn s a w
  | 0 => rfl
  | w + 1 => by
    rw [List.range_succ, List.map_append, List.map_cons, List.map_nil, horn_snoc, horn_tn s a w]
    simp [tn]
theorem tbL_cut (s : ByteArray) (a w : Nat) (h : a + w ≤ 8 * s.size) : ((tbL s).drop a).take w = (List.range w).map fun j => tb s (a + j) := by
  apply List.ext_getElem?
  intro i
  by_cases hi : i < w
  · rw [List.getElem?_take, if_pos hi, List.getElem?_drop]
    unfold tbL
    rw [List.getElem?_map, List.getElem?_range (by omega), List.getElem?_map, List.getElem?_range hi]; rfl
  · rw [List.getElem?_eq_none (by rw [List.length_take]; omega), List.getElem?_eq_none (by simp; omega)]
theorem horn_cut (s : ByteArray) (a w : Nat) (h : a + w ≤ 8 * s.size) : horn (((tbL s).drop a).take w) = tn s a w := by rw [tbL_cut s a w h, horn_tn]
theorem tbL_bit (s : ByteArray) : ∀ x ∈ tbL s, 0 ≤ x ∧ x ≤ 1 := fun x hx => by
  obtain ⟨i, _, rfl⟩ := List.mem_map.1 hx; exact tb_bd s i

/-- The widths' sum; what Unpack says of them; the numbers. -/
def wsum : List Int → Nat
  | [] => 0
  | x :: r => x.toNat + wsum r
def WOk (x : Int) : Prop := 0 ≤ x ∧ x ≤ 64
theorem wsum_append (a b : List Int) : wsum (a ++ b) = wsum a + wsum b := by
  induction a with
  | nil => simp [wsum]
  | cons x r ih => simp only [List.cons_append, wsum, ih]; omega
theorem wsum_succ {l : List Int} {i : Nat} {x : Int} (h : l[i]? = some x) : wsum (l.take (i + 1)) = wsum (l.take i) + x.toNat := by
  rw [List.take_add_one, h, wsum_append]; simp [wsum]
theorem wsum_le {l : List Int} : ∀ i, i ≤ l.length → wsum (l.take i) ≤ wsum l := fun i _ => by
  conv => rhs; rw [← List.take_append_drop i l]
  rw [wsum_append]; omega
theorem wsum_bd {l : List Int} (h : ∀ x ∈ l, WOk x) : wsum l ≤ 64 * l.length := by
  induction l with
  | nil => simp [wsum]
  | cons x r ih =>
    have h1 := (h x (by simp)).2
    have := ih (fun y hy => h y (by simp [hy]))
    simp only [wsum, List.length_cons]; omega
open Classical in
noncomputable def unpE (s : ByteArray) (ws : List Int) : Int := if ∀ x ∈ ws, WOk x then if 8 * s.size < wsum ws then 3 else 0 else 1
def unN (s : ByteArray) (ws : List Int) (k : Nat) : List Int := (List.range k).map fun i => tn s (wsum (ws.take i)) (ws.getD i 0).toNat
noncomputable def unpX (s : ByteArray) (ws : List Int) : List Int := if unpE s ws = 0 then unN s ws ws.length else []
theorem unN_length (s : ByteArray) (ws : List Int) (k : Nat) : (unN s ws k).length = k := by simp [unN]
theorem unN_succ {s : ByteArray} {ws : List Int} {k : Nat} {x : Int} (h : ws[k]? = some x) : unN s ws (k + 1) = unN s ws k ++ [tn s (wsum (ws.take k)) x.toNat] := by
  unfold unN; rw [List.range_succ, List.map_append]; simp [List.getD_eq_getElem?_getD, h]
theorem unp_arg {s : ByteArray} {ws : List Int} {i : Nat} {x : Int} (h : ws[i]? = some x) (hx : ¬ WOk x) : unpE s ws = 1 ∧ unpX s ws = [] := by
  have e : unpE s ws = 1 := by
    unfold unpE; rw [if_neg fun k => hx (k x (List.mem_iff_getElem?.2 ⟨i, h⟩))]
  exact ⟨e, by unfold unpX; rw [e]; rfl⟩
theorem unp_short {s : ByteArray} {ws : List Int} (h : ∀ x ∈ ws, WOk x) (h2 : 8 * s.size < wsum ws) : unpE s ws = 3 ∧ unpX s ws = [] := by
  have e : unpE s ws = 3 := by unfold unpE; rw [if_pos h, if_pos h2]
  exact ⟨e, by unfold unpX; rw [e]; rfl⟩
theorem unp_ok {s : ByteArray} {ws : List Int} (h : ∀ x ∈ ws, WOk x) (h2 : ¬ 8 * s.size < wsum ws) : unpE s ws = 0 ∧ unpX s ws = unN s ws ws.length := by
  have e : unpE s ws = 0 := by unfold unpE; rw [if_pos h, if_neg h2]
  exact ⟨e, by unfold unpX; rw [e]; rfl⟩
end Go.Proofs.Ytebgcemglicjiaa

/- Signs read from codes: plain lists. -/
namespace Go.Proofs.Ytebgcemglicjiaa
open Go.RowKit Go.PlainAid

/-- c is a code of length w. -/
def Hit (l : List Int) (c w : Int) : Prop := 0 < w ∧ lowW w l ≤ c ∧ c < lowW w l + cntW w l
/-- c is the beginning of a longer code. -/
def Mor (l : List Int) (c : Int) (w : Nat) : Prop := ∃ v : Nat, w < v ∧ v ≤ 15 ∧ 0 < cntW v l ∧ c * 2 ^ (v - w) < lowW v l + cntW v l ∧ lowW v l < (c + 1) * 2 ^ (v - w)

theorem cnt_pick (w : Int) : ∀ (l : List Int) (k : Int), 0 ≤ k → k < cntW w l → ∃ i : Nat, l[i]? = some w ∧ cntW w (l.take i) = k
  | [], k, h0, h1 => by simp [cntW] at h1; omega
  | a :: r, k, h0, h1 => by
    rw [cntW_cons] at h1
    by_cases ha : a = w
    · subst ha
      rw [if_pos rfl] at h1
      by_cases hk : k = 0
      · subst hk; exact ⟨0, rfl, by simp [cntW]⟩
      · obtain ⟨i, hi, hc⟩ := cnt_pick a r (k - 1) (by omega) (by omega)
        exact ⟨i + 1, hi, by rw [List.take_succ_cons, cntW_cons, if_pos rfl, hc]; omega⟩
    · rw [if_neg ha] at h1
      obtain ⟨i, hi, hc⟩ := cnt_pick w r k h0 (by omega)
      exact ⟨i + 1, hi, by rw [List.take_succ_cons, cntW_cons, if_neg ha, hc]; omega⟩
theorem cnt_lt {w : Int} {l : List Int} {i : Nat} (h : l[i]? = some w) : cntW w (l.take i) < cntW w l := by
  have h1 := cntW_take w l i w h
  rw [if_pos rfl] at h1
  have h2 : cntW w l = cntW w (l.take (i + 1)) + cntW w (l.drop (i + 1)) := by
    conv => lhs; rw [← List.take_append_drop (i + 1) l]
    unfold cntW
    rw [List.map_append, List.sum_append]
  have := (cntW_bd w (l.drop (i + 1))).1
  omega
theorem cnt_inj {w : Int} {l : List Int} {i j : Nat} (hi : l[i]? = some w) (hj : l[j]? = some w) (h : cntW w (l.take i) = cntW w (l.take j)) : i = j := by
  have key : ∀ {a b : Nat}, l[a]? = some w → a < b → cntW w (l.take a) < cntW w (l.take b) := fun {a b} ha hab => by
    have h1 : (l.take b)[a]? = some w := by rw [List.getElem?_take, if_pos hab]; exact ha
    have h2 := cnt_lt h1
    rw [List.take_take, show min a b = a by omega] at h2; exact h2
  rcases Nat.lt_trichotomy i j with h1 | h1 | h1
  · have := key hi h1; omega
  · exact h1
  · have := key hj h1; omega
theorem hit_iff {l : List Int} {c w : Int} (hw : 0 < w) : Hit l c w ↔ ∃ i : Nat, l[i]? = some w ∧ codeAt l i w = c := by
  constructor
  · rintro ⟨_, h1, h2⟩
    obtain ⟨i, hi, hc⟩ := cnt_pick w l (c - lowW w l) (by omega) (by omega)
    exact ⟨i, hi, by unfold codeAt; rw [if_pos hw, hc]; omega⟩
  · rintro ⟨i, hi, hc⟩
    unfold codeAt at hc
    rw [if_pos hw] at hc
    have h1 := cnt_lt hi
    have h2 := (cntW_bd w (l.take i)).1
    exact ⟨hw, by omega, by omega⟩
theorem code_inj {l : List Int} {w : Int} {i j : Nat} (hw : 0 < w) (hi : l[i]? = some w) (hj : l[j]? = some w) (h : codeAt l i w = codeAt l j w) : i = j := by
  unfold codeAt at h
  rw [if_pos hw, if_pos hw] at h
  exact cnt_inj hi hj (by omega)
theorem code_bd {l : List Int} {w : Int} {i : Nat} (hw : 0 < w) (hi : l[i]? = some w) : lowW w l ≤ codeAt l i w ∧ codeAt l i w < lowW w l + cntW w l := ((hit_iff hw).2 ⟨i, hi, rfl⟩).2
theorem mor_iff {l : List Int} {c : Int} {w : Nat} (hl : ∀ x ∈ l, 0 ≤ x ∧ x ≤ 15) : Mor l c w ↔ ∃ (i x : Nat), l[i]? = some (x : Int) ∧ w < x ∧ codeAt l i x / 2 ^ (x - w) = c := by
  constructor
  · rintro ⟨v, h1, h2, h3, h4, h5⟩
    have hv : (0 : Int) < (v : Int) := by omega
    have hp : (0 : Int) < 2 ^ (v - w) := Int.pow_pos (by decide)
    rw [Int.add_mul, Int.one_mul] at h5
    obtain ⟨y, hy1, hy2, hy3, hy4⟩ : ∃ y, lowW v l ≤ y ∧ y < lowW v l + cntW v l ∧ c * 2 ^ (v - w) ≤ y ∧ y < c * 2 ^ (v - w) + 2 ^ (v - w) := by
      generalize c * 2 ^ (v - w) = m at *
      by_cases h : lowW v l ≤ m
      · exact ⟨m, by omega, by omega, by omega, by omega⟩
      · exact ⟨lowW v l, by omega, by omega, by omega, by omega⟩
    obtain ⟨i, hi, hc⟩ := (hit_iff hv).1 ⟨hv, hy1, hy2⟩
    refine ⟨i, v, hi, h1, ?_⟩
    rw [hc]
    have h6 : y = c * 2 ^ (v - w) + (y - c * 2 ^ (v - w)) := by omega
    rw [h6, Int.add_comm, Int.add_mul_ediv_right _ _ (by omega), Int.ediv_eq_zero_of_lt (by omega) (by omega)]
    omega
  · rintro ⟨i, x, hi, hx, hc⟩
    have hx15 := (hl x (List.mem_iff_getElem?.2 ⟨i, hi⟩)).2
    have hx0 : (0 : Int) < (x : Int) := by omega
    obtain ⟨h1, h2⟩ := code_bd hx0 hi
    have hp : (0 : Int) < 2 ^ (x - w) := Int.pow_pos (by decide)
    have h3 := Int.emod_add_mul_ediv (codeAt l i x) (2 ^ (x - w))
    have h4 := Int.emod_nonneg (codeAt l i x) (show (2 : Int) ^ (x - w) ≠ 0 by omega)
    have h5 := Int.emod_lt_of_pos (codeAt l i x) hp
    rw [hc, Int.mul_comm] at h3
    refine ⟨x, hx, by omega, by omega, by omega, ?_⟩
    rw [Int.add_mul, Int.one_mul]; omega

/-- The first w bits from a on, as a number, the first the highest. -/
def cN (s : ByteArray) (a : Nat) : Nat → Int
  | 0 => 0
  | w + 1 => 2 * cN s a w + tb s (a + w)
theorem cN_bd (s : ByteArray) (a : Nat) : ∀ w, 0 ≤ cN s a w ∧ cN s a w < 2 ^ w
  | 0 => by simp [cN]
  | w + 1 => by
    have h := cN_bd s a w
    have h2 := tb_bd s (a + w)
    simp only [cN, Int.pow_succ]; omega
theorem cword_snoc (c b : Int) (hb : 0 ≤ b ∧ b ≤ 1) : ∀ k, cword (2 * c + b) (k + 1) = cword c k ++ [b]
  | 0 => by simp [cword]; omega
  | k + 1 => by
    have ih := cword_snoc c b hb k
    have e : cword (2 * c + b) (k + 1 + 1) = ((2 * c + b) / 2 ^ (k + 1) % 2) :: cword (2 * c + b) (k + 1) := rfl
    have e2 : cword c (k + 1) = (c / 2 ^ k % 2) :: cword c k := rfl
    rw [e, ih, e2, List.cons_append]
    congr 2
    rw [Int.pow_succ, Int.mul_comm (2 ^ k) 2, ← Int.ediv_ediv_of_nonneg (by decide)]
    congr 1; omega
/-- The bits are the number's. -/
theorem bits_cN (s : ByteArray) (a : Nat) : ∀ w, a + w ≤ 8 * s.size → ((tbL s).drop a).take w = cword (cN s a w) w := by
  intro w h
  rw [tbL_cut s a w h]
  clear h
  induction w with
  | zero => rfl
  | succ w ih =>
    rw [List.range_succ, List.map_append, ih]
    show _ = cword (2 * cN s a w + tb s (a + w)) (w + 1)
    rw [cword_snoc _ _ (tb_bd s _)]; rfl
theorem cword_inj {n : Nat} : ∀ {c d : Int}, 0 ≤ c → c < 2 ^ n → 0 ≤ d → d < 2 ^ n → cword c n = cword d n → c = d := by
  induction n with
  | zero => intro c d h1 h2 h3 h4 _; simp at h2 h4; omega
  | succ n ih =>
    intro c d h1 h2 h3 h4 h
    rw [show c = 2 * (c / 2) + c % 2 by omega, show d = 2 * (d / 2) + d % 2 by omega, cword_snoc _ _ (by omega), cword_snoc _ _ (by omega)] at h
    obtain ⟨h5, h6⟩ := List.append_inj' h rfl
    rw [Int.pow_succ] at h2 h4
    have := ih (by omega) (by omega) (by omega) (by omega) h5
    simp at h6
    omega
/-- The beginning of a word is the word of the quotient. -/
theorem cword_take (c : Int) : ∀ (x n : Nat), n ≤ x → (cword c x).take n = cword (c / 2 ^ (x - n)) n
  | 0, n, h => by (obtain rfl : n = 0 := (by omega)); rfl
  | x + 1, 0, h => rfl
  | x + 1, n + 1, h => by
    have e : cword c (x + 1) = (c / 2 ^ x % 2) :: cword c x := rfl
    have e2 : cword (c / 2 ^ (x + 1 - (n + 1))) (n + 1) = (c / 2 ^ (x + 1 - (n + 1)) / 2 ^ n % 2) :: cword (c / 2 ^ (x + 1 - (n + 1))) n := rfl
    rw [e, List.take_succ_cons, cword_take c x n (by omega), e2, show x + 1 - (n + 1) = x - n by omega, div_pow_pow, show x - n + n = x by omega]
theorem low_pow {l : List Int} (h : canE l = 0) {w : Nat} (hw0 : 0 < w) (hw : w ≤ 15) : lowW w l + cntW w l ≤ 2 ^ w := by
  have hall := fill_all h
  have hfe : fillE l = 0 := by
    by_cases hf : fillE l = 0
    · exact hf
    · rw [(can_fill hf).1] at h; exact absurd h hf
  have hs : fsum l ≤ 32768 := by
    by_cases ho : 32768 < fillV l
    · rw [(can_over hfe ho).1] at h; cases h
    · have : fillV l = fsum l := by
        unfold fillE at hfe
        unfold fillV
        by_cases h3 : 320 < l.length
        · rw [if_pos h3] at hfe; cases hfe
        · rw [if_neg h3] at hfe ⊢
          split at hfe
          · rename_i hh; rw [if_pos hh]
          · cases hfe
      omega
  have hk := low_kraft w (by omega) (by omega) l hall
  rw [show (15 - (w : Int)).toNat = 15 - w by omega] at hk
  have e : (32768 : Int) = 2 ^ (15 - w) * 2 ^ w := by
    rw [← Int.pow_add, show 15 - w + w = 15 by omega]; rfl
  rw [e] at hs
  have hp : (0 : Int) < 2 ^ (15 - w) := Int.pow_pos (by decide)
  exact Int.le_of_mul_le_mul_left (Int.le_trans hk hs) hp
/-- Word i of the reference's book. -/
def wordAt (l : List Int) (i : Nat) : List Int := cword (codeAt l i (l.getD i 0)) (l.getD i 0).toNat
theorem wordAt_len {l : List Int} {i x : Nat} (h : l[i]? = some (x : Int)) : (wordAt l i).length = x := by
  unfold wordAt; rw [cword_length]; simp [List.getD_eq_getElem?_getD, h]
theorem code_pow {l : List Int} (h : canE l = 0) {i x : Nat} (hi : l[i]? = some (x : Int)) (hx0 : 0 < x) : 0 ≤ codeAt l i x ∧ codeAt l i x < 2 ^ x := by
  have hx15 := (fill_all h x (List.mem_iff_getElem?.2 ⟨i, hi⟩)).2
  have h1 := low_pow h hx0 (by omega)
  have h2 := code_bd (by omega) hi
  exact ⟨codeAt_nonneg _ _ _, by omega⟩
/-- A word of n bits begins the text. -/
theorem begins_hit {l : List Int} (h : canE l = 0) {s : ByteArray} {a n i x : Nat} (hi : l[i]? = some (x : Int)) (hx0 : 0 < x) (hx : x = n) (hf : a + n ≤ 8 * s.size) : wordAt l i = ((tbL s).drop a).take n ↔ codeAt l i x = cN s a n := by
  subst hx
  rw [bits_cN s a x hf]
  unfold wordAt
  rw [show l.getD i 0 = (x : Int) by simp [List.getD_eq_getElem?_getD, hi], Int.toNat_natCast]
  have h1 := code_pow h hi hx0
  have h2 := cN_bd s a x
  exact ⟨fun e => cword_inj h1.1 h1.2 h2.1 h2.2 e, fun e => by rw [e]⟩
/-- The first n bits begin a longer word. -/
theorem begins_mor {l : List Int} (h : canE l = 0) {s : ByteArray} {a n i x : Nat} (hi : l[i]? = some (x : Int)) (hx : n < x) (hf : a + n ≤ 8 * s.size) : (wordAt l i).take n = ((tbL s).drop a).take n ↔ codeAt l i x / 2 ^ (x - n) = cN s a n := by
  rw [bits_cN s a n hf]
  unfold wordAt
  rw [show l.getD i 0 = (x : Int) by simp [List.getD_eq_getElem?_getD, hi], Int.toNat_natCast, cword_take _ _ _ (by omega)]
  have h1 := code_pow h hi (by omega)
  have h2 := cN_bd s a n
  have hp : (0 : Int) < 2 ^ (x - n) := Int.pow_pos (by decide)
  have h3 : codeAt l i x / 2 ^ (x - n) < 2 ^ n := by
    apply Int.ediv_lt_of_lt_mul hp
    rw [← Int.pow_add, show n + (x - n) = x by omega]; exact h1.2
  exact ⟨fun e => cword_inj (Int.ediv_nonneg h1.1 (by omega)) h3 h2.1 h2.2 e, fun e => by rw [e]⟩
end Go.Proofs.Ytebgcemglicjiaa

namespace Go.Proofs.Ytebgcemglicjiaa
open Go.RowKit Go.PlainAid

open Classical in
noncomputable def sgn (l : List Int) (c w : Int) : Int := if h : ∃ i : Nat, l[i]? = some w ∧ codeAt l i w = c then (Classical.choose h : Nat) else 0
theorem sgn_eq {l : List Int} {c w : Int} {i : Nat} (hw : 0 < w) (h1 : l[i]? = some w) (h2 : codeAt l i w = c) : sgn l c w = i := by
  have h : ∃ i : Nat, l[i]? = some w ∧ codeAt l i w = c := ⟨i, h1, h2⟩
  unfold sgn
  rw [dif_pos h]
  have h3 := Classical.choose_spec h
  rw [code_inj hw h3.1 h1 (h3.2.trans h2.symm)]
open Classical in
noncomputable def oneR (l : List Int) (s : ByteArray) (a : Nat) : Nat → Nat → Int × Int × Int
  | 0, _ => (0, 0, 7)
  | f + 1, w => if Hit l (cN s a w) w then (sgn l (cN s a w) w, ((a + w : Nat) : Int), 0) else if ¬ Mor l (cN s a w) w then (0, 0, 7) else if 8 * s.size ≤ a + w then (0, 0, 3) else oneR l s a f (w + 1)
noncomputable def one (l : List Int) (s : ByteArray) (a : Nat) : Int × Int × Int := oneR l s a 16 0
theorem oneR_hit {l : List Int} {s : ByteArray} {a f w : Nat} (h : Hit l (cN s a w) w) : oneR l s a (f + 1) w = (sgn l (cN s a w) w, ((a + w : Nat) : Int), 0) := by
  simp only [oneR]; rw [if_pos h]
theorem oneR_none {l : List Int} {s : ByteArray} {a f w : Nat} (h : ¬ Hit l (cN s a w) w) (h2 : ¬ Mor l (cN s a w) w) : oneR l s a (f + 1) w = (0, 0, 7) := by
  simp only [oneR]; rw [if_neg h, if_pos h2]
theorem oneR_short {l : List Int} {s : ByteArray} {a f w : Nat} (h : ¬ Hit l (cN s a w) w) (h2 : Mor l (cN s a w) w) (h3 : 8 * s.size ≤ a + w) : oneR l s a (f + 1) w = (0, 0, 3) := by
  simp only [oneR]; rw [if_neg h, if_neg (fun k => k h2), if_pos h3]
theorem oneR_on {l : List Int} {s : ByteArray} {a f w : Nat} (h : ¬ Hit l (cN s a w) w) (h2 : Mor l (cN s a w) w) (h3 : ¬ 8 * s.size ≤ a + w) : oneR l s a (f + 1) w = oneR l s a f (w + 1) := by
  simp only [oneR]; rw [if_neg h, if_neg (fun k => k h2), if_neg h3]
theorem mor_lt {l : List Int} {c : Int} {w : Nat} (h : Mor l c w) : w < 15 := by obtain ⟨v, h1, h2, _⟩ := h; omega
/-- What one sign's reading answers. -/
def OneOk (l : List Int) (s : ByteArray) (a : Nat) (r : Int × Int × Int) : Prop := (∃ x k : Nat, r = ((x : Int), (k : Int), 0) ∧ x < l.length ∧ a ≤ k ∧ k ≤ 8 * s.size) ∨ r = (0, 0, 7) ∨ r = (0, 0, 3)
theorem oneR_ok (l : List Int) (s : ByteArray) (a : Nat) : ∀ f w, a + w ≤ 8 * s.size → OneOk l s a (oneR l s a f w)
  | 0, w, _ => .inr (.inl rfl)
  | f + 1, w, hw => by
    by_cases h : Hit l (cN s a w) w
    · rw [oneR_hit h]
      obtain ⟨i, h1, h2⟩ := (hit_iff h.1).1 h
      rw [sgn_eq h.1 h1 h2]
      exact .inl ⟨i, a + w, rfl, (List.getElem?_eq_some_iff.1 h1).1, by omega, hw⟩
    · by_cases h2 : Mor l (cN s a w) w
      · by_cases h3 : 8 * s.size ≤ a + w
        · rw [oneR_short h h2 h3]; exact .inr (.inr rfl)
        · rw [oneR_on h h2 h3]; exact oneR_ok l s a f (w + 1) (by omega)
      · rw [oneR_none h h2]; exact .inr (.inl rfl)
theorem one_ok (l : List Int) (s : ByteArray) (a : Nat) (h : a ≤ 8 * s.size) : OneOk l s a (one l s a) := oneR_ok l s a 16 0 h
noncomputable def seqR (l : List Int) (s : ByteArray) : Nat → Nat → List Int → Int × List Int × Int
  | 0, a, L => (0, L, (a : Int))
  | k + 1, a, L => if (one l s a).2.2 = 0 then seqR l s k (one l s a).2.1.toNat (L ++ [(one l s a).1]) else ((one l s a).2.2, [], 0)
theorem seqR_on {l : List Int} {s : ByteArray} {k a x y : Nat} {L : List Int} (h : one l s a = ((x : Int), (y : Int), 0)) : seqR l s (k + 1) a L = seqR l s k y (L ++ [(x : Int)]) := by
  simp only [seqR]; rw [h]; simp
theorem seqR_bad {l : List Int} {s : ByteArray} {k a : Nat} {e : Int} {L : List Int} (h : one l s a = (0, 0, e)) (he : e ≠ 0) : seqR l s (k + 1) a L = (e, [], 0) := by
  simp only [seqR]; rw [h]; simp [he]
noncomputable def crR (l : List Int) (s : ByteArray) (at_ n : Int) : Int × List Int × Int :=
  if canE l = 0 then if 0 ≤ at_ ∧ at_ ≤ 8 * s.size ∧ 0 ≤ n then if n ≤ 1024 then seqR l s n.toNat at_.toNat [] else (2, [], 0) else (1, [], 0) else (canE l, [], 0)
end Go.Proofs.Ytebgcemglicjiaa
