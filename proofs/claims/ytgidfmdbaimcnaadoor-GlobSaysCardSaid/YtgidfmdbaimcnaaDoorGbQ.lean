/- Patterns: signs of a text, and how a pattern is read (plain). -/
import Derived.Test.YtgidfmdbaimcnaaDoorGbP
import Derived.Test.YtgidfmdbaimcnaaDoorBits
import Derived.PlainAid
import Derived.Lib.DecodeN
import Derived.Shelf.Unicode.DecodeSlow
namespace Go.Proofs.YtgidfmdbaimcnaaDoor
open Go.PlainAid

/-- A text's first sign, as the program takes it. -/
def stp (s : ByteArray) : Int × Nat := if (Lib.decodeGo s).1 = 65533 ∧ (Lib.decodeGo s).2 = 1 then (1114112 + bt s 0, 1) else ((Lib.decodeGo s).1, (Lib.decodeGo s).2)
/-- The bytes behind the first, as the reference takes them. -/
def cv (s : ByteArray) (n : Nat) : Nat → Nat → Int → Option Int
  | 0, _, v => some v
  | f + 1, i, v => if i < n then (if bt s i < 128 ∨ 191 < bt s i then none else cv s n f (i + 1) (v * 64 + bt s i % 64)) else some v
/-- How many bytes, the least value, and the first byte's part. -/
def lead (b : Int) : Nat × Int × Int :=
  if 194 ≤ b ∧ b < 224 then (2, 128, b % 32) else if 224 ≤ b ∧ b < 240 then (3, 2048, b % 16) else if 240 ≤ b ∧ b < 245 then (4, 65536, b % 8) else (0, 0, 0)
def fst (s : ByteArray) : Int × Nat :=
  if bt s 0 < 128 then (bt s 0, 1)
  else if (lead (bt s 0)).1 = 0 ∨ s.size < (lead (bt s 0)).1 then (0, 0)
  else match cv s (lead (bt s 0)).1 4 1 (lead (bt s 0)).2.2 with
    | none => (0, 0)
    | some v => if v < (lead (bt s 0)).2.1 ∨ 1114111 < v ∨ (55296 ≤ v ∧ v < 57344) then (0, 0) else (v, (lead (bt s 0)).1)
theorem bang_bt (s : ByteArray) (k : Nat) : ∃ x : Nat, x < 256 ∧ (s.get! k).toNat = x ∧ bt s k = (x : Int) := by
  refine ⟨(s.get! k).toNat, UInt8.toNat_lt _, rfl, ?_⟩
  by_cases h : k < s.size
  · rw [← get_bt s k h]
    have : s.get! k = s[k]'h := get_at s k h
    rw [this]
  · rw [bt_end s (by omega)]
    have : s.get! k = default := by
      unfold ByteArray.get!
      have : ¬ k < s.data.size := h
      simp [getElem!_def, Array.getElem?_eq_none (by omega : s.data.size ≤ k)]
    rw [this]; rfl
theorem decode_go (s : ByteArray) (h : s.size ≠ 0) : Lib.decodeGo s = Lib.decodeN s.size (s.get! 0).toNat (s.get! 1).toNat (s.get! 2).toNat (s.get! 3).toNat := by
  simp only [Lib.decodeGo, h, if_false]
  rw [Lib.decode_at]
  simp
/-- The same, over four numbers. -/
def fstN (n : Nat) (b0 b1 b2 b3 : Int) : Int × Nat :=
  if b0 < 128 then (b0, 1)
  else if (lead b0).1 = 0 ∨ n < (lead b0).1 then (0, 0)
  else if 1 < (lead b0).1 ∧ (b1 < 128 ∨ 191 < b1) then (0, 0)
  else if 2 < (lead b0).1 ∧ (b2 < 128 ∨ 191 < b2) then (0, 0)
  else if 3 < (lead b0).1 ∧ (b3 < 128 ∨ 191 < b3) then (0, 0)
  else
    let v := if 3 < (lead b0).1 then (((lead b0).2.2 * 64 + b1 % 64) * 64 + b2 % 64) * 64 + b3 % 64 else if 2 < (lead b0).1 then ((lead b0).2.2 * 64 + b1 % 64) * 64 + b2 % 64 else (lead b0).2.2 * 64 + b1 % 64
    if v < (lead b0).2.1 ∨ 1114111 < v ∨ (55296 ≤ v ∧ v < 57344) then (0, 0) else (v, (lead b0).1)
theorem lead_cases (b : Int) : (lead b).1 = 0 ∨ (lead b).1 = 2 ∨ (lead b).1 = 3 ∨ (lead b).1 = 4 := by
  unfold lead
  repeat' split
  all_goals simp
theorem fst_N (s : ByteArray) : fst s = fstN s.size (bt s 0) (bt s 1) (bt s 2) (bt s 3) := by
  unfold fst fstN
  split
  · rfl
  split
  · rfl
  rename_i h1 h2
  rcases lead_cases (bt s 0) with h | h | h | h
  · exact absurd (.inl h) h2
  · simp only [h, cv]
    by_cases a1 : bt s 1 < 128 ∨ 191 < bt s 1
    · simp [a1]
    · simp [a1]
  · simp only [h, cv]
    by_cases a1 : bt s 1 < 128 ∨ 191 < bt s 1
    · simp [a1]
    · by_cases a2 : bt s 2 < 128 ∨ 191 < bt s 2
      · simp [a1, a2]
      · simp [a1, a2]
  · simp only [h, cv]
    by_cases a1 : bt s 1 < 128 ∨ 191 < bt s 1
    · simp [a1]
    · by_cases a2 : bt s 2 < 128 ∨ 191 < bt s 2
      · simp [a1, a2]
      · by_cases a3 : bt s 3 < 128 ∨ 191 < bt s 3
        · simp [a1, a2, a3]
        · simp [a1, a2, a3]
set_option maxHeartbeats 8000000 in
set_option maxRecDepth 100000 in
theorem fstN_eq (n x0 x1 x2 x3 : Nat) (h0 : x0 < 256) (h1 : x1 < 256) (h2 : x2 < 256) (h3 : x3 < 256) :
    fstN n x0 x1 x2 x3 = if (Lib.decodeN n x0 x1 x2 x3).1 = 65533 ∧ (Lib.decodeN n x0 x1 x2 x3).2 = 1 then (0, 0) else (((Lib.decodeN n x0 x1 x2 x3).1 : Int), (Lib.decodeN n x0 x1 x2 x3).2) := by
  by_cases c0 : x0 < 128
  · have : ((x0 : Nat) : Int) < 128 := by omega
    simp only [fstN, Lib.decodeN, c0, this, if_true]
    rw [if_neg (by omega)]
  have c0' : ¬ ((x0 : Nat) : Int) < 128 := by omega
  by_cases c1 : 194 ≤ x0 ∧ x0 < 224
  · have hl : lead x0 = (2, 128, (x0 : Int) % 32) := by unfold lead; rw [if_pos (by omega)]
    have e1 : x0 / 32 = 6 := by omega
    have e2 : ¬ x0 / 16 = 14 := by omega
    have e3 : ¬ x0 / 8 = 30 := by omega
    simp only [fstN, Lib.decodeN, c0, c0', hl, e1, e2, e3, if_false, false_and, true_and]
    repeat' split
    all_goals first | (exfalso; omega) | rfl | (apply Prod.ext <;> simp only <;> omega) | skip
  by_cases c2 : 224 ≤ x0 ∧ x0 < 240
  · have hl : lead x0 = (3, 2048, (x0 : Int) % 16) := by unfold lead; rw [if_neg (by omega), if_pos (by omega)]
    have e1 : ¬ x0 / 32 = 6 := by omega
    have e2 : x0 / 16 = 14 := by omega
    have e3 : ¬ x0 / 8 = 30 := by omega
    simp only [fstN, Lib.decodeN, c0, c0', hl, e1, e2, e3, if_false, false_and, true_and]
    repeat' split
    all_goals first | (exfalso; omega) | rfl | (apply Prod.ext <;> simp only <;> omega) | skip
  by_cases c3 : 240 ≤ x0 ∧ x0 < 245
  · have hl : lead x0 = (4, 65536, (x0 : Int) % 8) := by unfold lead; rw [if_neg (by omega), if_neg (by omega), if_pos (by omega)]
    have e1 : ¬ x0 / 32 = 6 := by omega
    have e2 : ¬ x0 / 16 = 14 := by omega
    have e3 : x0 / 8 = 30 := by omega
    simp only [fstN, Lib.decodeN, c0, c0', hl, e1, e2, e3, if_false, false_and, true_and]
    repeat' split
    all_goals first | (exfalso; omega) | rfl | (apply Prod.ext <;> simp only <;> omega) | skip
  · have hl : lead x0 = (0, 0, 0) := by unfold lead; rw [if_neg (by omega), if_neg (by omega), if_neg (by omega)]
    have e2 : ¬ x0 / 16 = 14 := by omega
    simp only [fstN, Lib.decodeN, c0, c0', hl, e2, if_false, false_and, true_or, if_true]
    repeat' split
    all_goals first | (exfalso; omega) | rfl | (apply Prod.ext <;> simp only <;> omega) | skip
theorem fst_eq (s : ByteArray) (h : s.size ≠ 0) : fst s = if (Lib.decodeGo s).1 = 65533 ∧ (Lib.decodeGo s).2 = 1 then (0, 0) else (((Lib.decodeGo s).1 : Int), (Lib.decodeGo s).2) := by
  rw [decode_go s h, fst_N]
  obtain ⟨x0, a0, b0, c0⟩ := bang_bt s 0
  obtain ⟨x1, a1, b1, c1⟩ := bang_bt s 1
  obtain ⟨x2, a2, b2, c2⟩ := bang_bt s 2
  obtain ⟨x3, a3, b3, c3⟩ := bang_bt s 3
  rw [b0, b1, b2, b3, c0, c1, c2, c3]
  exact fstN_eq _ _ _ _ _ a0 a1 a2 a3
/-- The sign, by the reference. -/
theorem stp_fst (s : ByteArray) (h : s.size ≠ 0) : stp s = if (fst s).2 = 0 then (1114112 + bt s 0, 1) else fst s := by
  rw [fst_eq s h]
  unfold stp
  split
  · rename_i h1; rw [if_pos rfl]
  · rename_i h1
    rw [if_neg]
    intro h2
    have h2 : (Lib.decodeGo s).2 = 0 := h2
    rw [decode_go s h] at h2
    revert h2
    unfold Lib.decodeN
    repeat' split
    all_goals simp
theorem fst_two (s : ByteArray) : (fst s).2 ≤ 4 ∧ ((fst s).2 ≤ s.size ∨ s.size = 0) := by
  unfold fst
  split
  · exact ⟨by simp, by show 1 ≤ _ ∨ _; omega⟩
  split
  · exact ⟨by simp, .inl (by simp)⟩
  rename_i h1 h2
  have hl := lead_cases (bt s 0)
  split
  · exact ⟨by simp, .inl (by simp)⟩
  split
  · exact ⟨by simp, .inl (by simp)⟩
  · exact ⟨by simp; omega, .inl (by simp; omega)⟩
theorem fst_val (s : ByteArray) : 0 ≤ (fst s).1 ∧ (fst s).1 ≤ 1114111 := by
  have h0 := bt_nonneg s 0
  have h1 := bt_le s 0
  have hlv : 0 ≤ (lead (bt s 0)).2.1 := by unfold lead; (repeat' split) <;> simp
  unfold fst
  repeat' split
  all_goals simp only
  all_goals first | omega | (rename_i hv; omega)
theorem stp_two (s : ByteArray) (h : s.size ≠ 0) : 1 ≤ (stp s).2 ∧ (stp s).2 ≤ s.size ∧ 0 ≤ (stp s).1 ∧ (stp s).1 ≤ 1114367 := by
  rw [stp_fst s h]
  have h0 := bt_nonneg s 0
  have h1 := bt_le s 0
  split
  · exact ⟨by simp, by simp; omega, by simp; omega, by simp; omega⟩
  · rename_i h2
    obtain ⟨a, b⟩ := fst_two s
    obtain ⟨c, d⟩ := fst_val s
    exact ⟨by omega, b.resolve_right h, c, by omega⟩
/-- A text's signs. -/
def sgn : Nat → ByteArray → List Int
  | 0, _ => []
  | f + 1, s => if s.size = 0 then [] else (stp s).1 :: sgn f (s.extract (stp s).2 s.size)
def sgs (s : ByteArray) : List Int := sgn s.size s
theorem sgn_more : ∀ (f : Nat) (s : ByteArray), s.size ≤ f → sgn f s = sgs s := by
  intro f
  induction f using Nat.strongRecOn with
  | ind f ih =>
    intro s h
    unfold sgs
    cases hs : s.size with
    | zero => cases f with
      | zero => rfl
      | succ f => simp [sgn, hs]
    | succ m =>
      cases f with
      | zero => omega
      | succ f =>
        have h2 := stp_two s (by omega)
        have hx : (s.extract (stp s).2 s.size).size = s.size - (stp s).2 := by rw [ByteArray.size_extract]; omega
        simp only [sgn, hs, Nat.add_one_ne_zero, if_false]
        rw [hs] at h2 hx
        rw [ih f (by omega) _ (by omega), ih m (by omega) _ (by omega)]
theorem sgs_nil {s : ByteArray} (h : s.size = 0) : sgs s = [] := by unfold sgs; rw [h]; rfl
theorem sgs_step {s : ByteArray} (h : s.size ≠ 0) : sgs s = (stp s).1 :: sgs (s.extract (stp s).2 s.size) := by
  obtain ⟨m, hm⟩ : ∃ m, s.size = m + 1 := ⟨s.size - 1, by omega⟩
  have h2 := stp_two s h
  have hx : (s.extract (stp s).2 s.size).size = s.size - (stp s).2 := by rw [ByteArray.size_extract]; omega
  conv => lhs; unfold sgs; rw [hm]; unfold sgn; rw [if_neg h]
  rw [sgn_more m _ (by omega)]
theorem sgs_len : ∀ (n : Nat) (s : ByteArray), s.size ≤ n → (sgs s).length ≤ s.size ∧ ∀ x, x ∈ sgs s → 0 ≤ x ∧ x ≤ 1114367
  | 0, s, h => by rw [sgs_nil (by omega)]; simp
  | n + 1, s, h => by
    by_cases h0 : s.size = 0
    · rw [sgs_nil h0]; simp
    · rw [sgs_step h0]
      have h2 := stp_two s h0
      have hx : (s.extract (stp s).2 s.size).size = s.size - (stp s).2 := by rw [ByteArray.size_extract]; omega
      have ih := sgs_len n (s.extract (stp s).2 s.size) (by omega)
      refine ⟨by rw [List.length_cons]; omega, fun x hxm => ?_⟩
      rcases List.mem_cons.1 hxm with rfl | h3
      · exact h2.2.2
      · exact ih.2 x h3

/-! ### how a pattern is read -/
/-- The next sign; whether it stands behind a stroke; what is left. -/
def nx : List Int → Option (Int × Bool × List Int)
  | [] => none
  | c :: r => if c = 92 then (match r with | [] => none | d :: r' => some (d, true, r')) else some (c, false, r)
/-- A class behind its bracket. -/
def cls : Nat → List (Int × Int) → List Int → Option (List (Int × Int) × List Int)
  | 0, _, _ => none
  | f + 1, acc, l => match nx l with
    | none => none
    | some (c, pl, r) =>
      if c = 93 ∧ pl = false then (if acc = [] then none else some (acc, r))
      else if r[0]? = some 45 ∧ r[1]? ≠ some 93 ∧ 1 < r.length then
        match nx (r.drop 1) with
        | none => none
        | some (h, _, r2) => if h < c then none else cls f (acc ++ [(c, h)]) r2
      else cls f (acc ++ [(c, c)]) r
def clsR (acc : List (Int × Int)) (l : List Int) : Option (List (Int × Int) × List Int) := cls (l.length + 1) acc l
theorem drop_app {α : Type} (a r : List α) : r = (a ++ r).drop ((a ++ r).length - r.length) := by
  rw [List.length_append, Nat.add_sub_cancel, List.drop_left]
theorem nx_len {l r : List Int} {c : Int} {pl : Bool} (h : nx l = some (c, pl, r)) : r.length < l.length ∧ r = l.drop (l.length - r.length) := by
  unfold nx at h
  split at h
  · cases h
  · split at h
    · split at h
      · cases h
      · cases h; exact ⟨by simp only [List.length_cons]; omega, drop_app [_, _] _⟩
    · cases h; exact ⟨by simp, drop_app [_] _⟩
theorem cls_more : ∀ (f : Nat) (acc : List (Int × Int)) (l : List Int), l.length < f → cls f acc l = clsR acc l := by
  intro f
  induction f using Nat.strongRecOn with
  | ind f ih =>
    intro acc l h
    unfold clsR
    cases f with
    | zero => omega
    | succ f =>
      simp only [cls]
      cases hn : nx l with
      | none => rfl
      | some y =>
        obtain ⟨c, pl, r⟩ := y
        have hl := (nx_len hn).1
        simp only
        split
        · rfl
        · split
          · cases hn2 : nx (r.drop 1) with
            | none => rfl
            | some z =>
              obtain ⟨h', pl', r2⟩ := z
              have hl2 := (nx_len hn2).1
              rw [List.length_drop] at hl2
              simp only
              split
              · rfl
              · rw [ih f (by omega) _ _ (by omega)]
                by_cases hq : l.length = f
                · rw [hq, ih f (by omega) _ _ (by omega)]
                · rw [ih l.length (by omega) _ _ (by omega)]
          · rw [ih f (by omega) _ _ (by omega)]
            by_cases hq : l.length = f
            · rw [hq, ih f (by omega) _ _ (by omega)]
            · rw [ih l.length (by omega) _ _ (by omega)]
section
variable {acc : List (Int × Int)} {l r r2 : List Int} {c h : Int} {pl pl2 : Bool}
theorem clsR_none (h1 : nx l = none) : clsR acc l = none := by unfold clsR cls; rw [h1]
theorem clsR_close (h1 : nx l = some (93, false, r)) : clsR acc l = if acc = [] then none else some (acc, r) := by
  unfold clsR cls; rw [h1]; simp
theorem clsR_one (h1 : nx l = some (c, pl, r)) (h2 : ¬ (c = 93 ∧ pl = false)) (h3 : ¬ (r[0]? = some 45 ∧ r[1]? ≠ some 93 ∧ 1 < r.length)) : clsR acc l = clsR (acc ++ [(c, c)]) r := by
  have hl := (nx_len h1).1
  conv => lhs; unfold clsR cls; rw [h1]
  simp only
  rw [if_neg h2, if_neg h3, cls_more _ _ _ hl]
theorem clsR_bad (h1 : nx l = some (c, pl, r)) (h2 : ¬ (c = 93 ∧ pl = false)) (h3 : r[0]? = some 45 ∧ r[1]? ≠ some 93 ∧ 1 < r.length) (h4 : nx (r.drop 1) = none) : clsR acc l = none := by
  unfold clsR cls; rw [h1]
  simp only
  rw [if_neg h2, if_pos h3, h4]
theorem clsR_less (h1 : nx l = some (c, pl, r)) (h2 : ¬ (c = 93 ∧ pl = false)) (h3 : r[0]? = some 45 ∧ r[1]? ≠ some 93 ∧ 1 < r.length) (h4 : nx (r.drop 1) = some (h, pl2, r2)) (h5 : h < c) : clsR acc l = none := by
  unfold clsR cls; rw [h1]
  simp only
  rw [if_neg h2, if_pos h3, h4]
  simp only
  rw [if_pos h5]
theorem clsR_range (h1 : nx l = some (c, pl, r)) (h2 : ¬ (c = 93 ∧ pl = false)) (h3 : r[0]? = some 45 ∧ r[1]? ≠ some 93 ∧ 1 < r.length) (h4 : nx (r.drop 1) = some (h, pl2, r2)) (h5 : ¬ h < c) : clsR acc l = clsR (acc ++ [(c, h)]) r2 := by
  have hl := (nx_len h1).1
  have hl2 := (nx_len h4).1
  rw [List.length_drop] at hl2
  conv => lhs; unfold clsR cls; rw [h1]
  simp only
  rw [if_neg h2, if_pos h3, h4]
  simp only
  rw [if_neg h5, cls_more _ _ _ (by omega)]
end
theorem cls_len : ∀ (f : Nat) (acc : List (Int × Int)) (l : List Int) (sp : List (Int × Int)) (r : List Int), cls f acc l = some (sp, r) → r.length < l.length ∧ r = l.drop (l.length - r.length) ∧ sp ≠ []
  | 0, _, _, _, _, h => by simp [cls] at h
  | f + 1, acc, l, sp, r, h => by
    simp only [cls] at h
    cases hn : nx l with
    | none => rw [hn] at h; cases h
    | some y =>
      obtain ⟨c, pl, r1⟩ := y
      rw [hn] at h
      obtain ⟨l1, d1⟩ := nx_len hn
      simp only at h
      have go : ∀ (a : List (Int × Int)) (q : List Int), q.length ≤ r1.length → q = r1.drop (r1.length - q.length) → cls f a q = some (sp, r) → r.length < l.length ∧ r = l.drop (l.length - r.length) ∧ sp ≠ [] := fun a q hq dq hc => by
        obtain ⟨l2, d2, n2⟩ := cls_len f a q sp r hc
        refine ⟨by omega, ?_, n2⟩
        conv => lhs; rw [d2, dq, d1]
        rw [List.drop_drop, List.drop_drop]
        congr 1
        have e1 : (l.drop (l.length - r1.length)).length = r1.length := by rw [List.length_drop]; omega
        simp only [e1]
        have e2 : (r1.drop (r1.length - q.length)).length = q.length := by rw [List.length_drop]; omega
        rw [← d1]
        simp only [e2]
        omega
      split at h
      · split at h
        · cases h
        · rename_i _ hne
          cases h
          exact ⟨l1, d1, hne⟩
      · split at h
        · cases hn2 : nx (r1.drop 1) with
          | none => rw [hn2] at h; cases h
          | some z =>
            obtain ⟨h', pl', r2⟩ := z
            rw [hn2] at h
            obtain ⟨l2, d2⟩ := nx_len hn2
            rw [List.length_drop] at l2 d2
            simp only at h
            split at h
            · cases h
            · refine go _ r2 (by omega) ?_ h
              conv => lhs; rw [d2]
              rw [List.drop_drop]
              congr 1
              omega
        · exact go _ r1 (Nat.le_refl _) (by simp) h
/-- A pattern's parts. -/
def one (c : Int) : Pc := ⟨false, false, [(c, c)]⟩
def bang (l : List Int) : Bool := decide (l[0]? = some 33)
def unbang (l : List Int) : List Int := if l[0]? = some 33 then l.drop 1 else l
def pts : Nat → List Int → Option (List Pc)
  | 0, _ => none
  | f + 1, l =>
    if l = [] then some []
    else match nx l with
      | none => none
      | some (c, pl, r) =>
        if pl = true then (pts f r).map (one c :: ·)
        else if c = 42 then (pts f r).map (⟨true, false, []⟩ :: ·)
        else if c = 63 then (pts f r).map (⟨false, true, []⟩ :: ·)
        else if c = 91 then match clsR [] (unbang r) with
          | none => none
          | some (sp, r2) => (pts f r2).map (⟨false, bang r, sp⟩ :: ·)
        else (pts f r).map (one c :: ·)
def ptsR (l : List Int) : Option (List Pc) := pts (l.length + 1) l
theorem unbang_len (l : List Int) : (unbang l).length ≤ l.length := by unfold unbang; split <;> simp
theorem pts_more : ∀ (f : Nat) (l : List Int), l.length < f → pts f l = ptsR l := by
  intro f
  induction f using Nat.strongRecOn with
  | ind f ih =>
    intro l h
    unfold ptsR
    cases f with
    | zero => omega
    | succ f =>
      have key : ∀ r : List Int, r.length < l.length → pts f r = pts l.length r := fun r hr => by
        rw [ih f (by omega) r (by omega)]
        by_cases hq : l.length = f
        · rw [hq, ih f (by omega) r (by omega)]
        · rw [ih l.length (by omega) r hr]
      simp only [pts]
      split
      · rfl
      · cases hn : nx l with
        | none => rfl
        | some y =>
          obtain ⟨c, pl, r⟩ := y
          have hl := (nx_len hn).1
          simp only
          rw [key r hl]
          cases hc : clsR [] (unbang r) with
          | none => rfl
          | some z =>
            obtain ⟨sp, r2⟩ := z
            have h2 := (cls_len _ _ _ _ _ hc).1
            have h3 := unbang_len r
            simp only
            rw [key r2 (by omega)]
section
variable {l r r2 : List Int} {c : Int} {sp : List (Int × Int)}
theorem ptsR_nil : ptsR [] = some [] := rfl
theorem nx_ne {y : Int × Bool × List Int} (h : nx l = some y) : l ≠ [] := by rintro rfl; cases h
theorem ptsR_none (h0 : l ≠ []) (h : nx l = none) : ptsR l = none := by unfold ptsR pts; rw [if_neg h0, h]
theorem ptsR_esc (h : nx l = some (c, true, r)) : ptsR l = (ptsR r).map (one c :: ·) := by
  have hl := (nx_len h).1
  conv => lhs; unfold ptsR pts; rw [if_neg (nx_ne h), h]
  simp only
  rw [if_pos trivial, pts_more _ _ hl]
theorem ptsR_run (h : nx l = some (42, false, r)) : ptsR l = (ptsR r).map (⟨true, false, []⟩ :: ·) := by
  have hl := (nx_len h).1
  conv => lhs; unfold ptsR pts; rw [if_neg (nx_ne h), h]
  simp only
  rw [if_neg (by decide), if_pos trivial, pts_more _ _ hl]
theorem ptsR_any (h : nx l = some (63, false, r)) : ptsR l = (ptsR r).map (⟨false, true, []⟩ :: ·) := by
  have hl := (nx_len h).1
  conv => lhs; unfold ptsR pts; rw [if_neg (nx_ne h), h]
  simp only
  rw [if_neg (by decide), if_neg (by decide), if_pos trivial, pts_more _ _ hl]
theorem ptsR_clsN (h : nx l = some (91, false, r)) (hc : clsR [] (unbang r) = none) : ptsR l = none := by
  conv => lhs; unfold ptsR pts; rw [if_neg (nx_ne h), h]
  simp only
  rw [if_neg (by decide), if_neg (by decide), if_neg (by decide), if_pos trivial, hc]
theorem ptsR_cls (h : nx l = some (91, false, r)) (hc : clsR [] (unbang r) = some (sp, r2)) : ptsR l = (ptsR r2).map (⟨false, bang r, sp⟩ :: ·) := by
  have hl := (nx_len h).1
  have h2 := (cls_len _ _ _ _ _ hc).1
  have h3 := unbang_len r
  conv => lhs; unfold ptsR pts; rw [if_neg (nx_ne h), h]
  simp only
  rw [if_neg (by decide), if_neg (by decide), if_neg (by decide), if_pos trivial, hc]
  simp only
  rw [pts_more _ _ (by omega)]
theorem ptsR_one (h : nx l = some (c, false, r)) (h1 : c ≠ 42) (h2 : c ≠ 63) (h3 : c ≠ 91) : ptsR l = (ptsR r).map (one c :: ·) := by
  have hl := (nx_len h).1
  conv => lhs; unfold ptsR pts; rw [if_neg (nx_ne h), h]
  simp only
  rw [if_neg (by decide), if_neg h1, if_neg h2, if_neg h3, pts_more _ _ hl]
end
/-- What Match answers. -/
def gbV (p s : ByteArray) : Bool × Int :=
  if 40 < p.size ∨ 40 < s.size then (false, 2)
  else match ptsR (sgs p) with
    | none => (false, 4)
    | some l => (mt l (sgs s), 0)
end Go.Proofs.YtgidfmdbaimcnaaDoor
