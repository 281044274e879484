/- Packets of two and two: the lengths that come out fill all: plain. -/
import Derived.Test.YtoncakcfibahaaaBtP
namespace Go.Proofs.Ytoncakcfibahaaa.Ht

abbrev Coin := Nat × List Nat
def le (x y : Coin) : Bool := decide (x.1 ≤ y.1)
def prs : List Coin → List Coin
  | a :: b :: l => (a.1 + b.1, a.2 ++ b.2) :: prs l
  | _ => []
def cnt (l : List Coin) (r : Nat) : Nat := (l.flatMap (·.2)).count r
theorem cnt_append (a b : List Coin) (r : Nat) : cnt (a ++ b) r = cnt a r + cnt b r := by simp [cnt, List.flatMap_append, List.count_append]
theorem cnt_cons (a : Coin) (b : List Coin) (r : Nat) : cnt (a :: b) r = a.2.count r + cnt b r := by simp [cnt, List.count_append]
theorem cnt_nil (r : Nat) : cnt [] r = 0 := rfl
theorem cnt_perm {a b : List Coin} (h : a.Perm b) (r : Nat) : cnt a r = cnt b r := by
  induction h with
  | nil => rfl
  | cons x _ ih => rw [cnt_cons, cnt_cons, ih]
  | swap x y l => rw [cnt_cons, cnt_cons, cnt_cons, cnt_cons]; omega
  | trans _ _ h1 h2 => exact h1.trans h2
theorem take_prs : ∀ (k : Nat) (l : List Coin), (prs l).take k = prs (l.take (2 * k))
  | 0, l => by simp [prs]
  | k + 1, [] => by simp [prs]
  | k + 1, [a] => by simp [prs, show 2 * (k + 1) = 2 * k + 1 + 1 by omega]
  | k + 1, a :: b :: l => by
    rw [show 2 * (k + 1) = 2 * k + 1 + 1 by omega]
    simp [prs, take_prs k l]
theorem cnt_prs : ∀ (l : List Coin), l.length % 2 = 0 → ∀ r, cnt (prs l) r = cnt l r
  | [], _, r => rfl
  | [a], h, r => by simp at h
  | a :: b :: l, h, r => by
    have := cnt_prs l (by simp at h; omega) r
    rw [prs, cnt_cons, cnt_cons, cnt_cons, this, List.count_append]; omega
theorem len_prs : ∀ l : List Coin, (prs l).length = l.length / 2
  | [] => rfl
  | [a] => by simp [prs]
  | a :: b :: l => by
    have := len_prs l
    simp [prs, this]; omega
/-- What stands in front of a merge: fronts of both; whatever packet is in it weighs less than the next single. -/
theorem merge_take : ∀ (S P : List Coin), (S.Pairwise fun x y => x.1 ≤ y.1) → ∀ m, m ≤ S.length + P.length →
    ∃ s k, s ≤ S.length ∧ k ≤ P.length ∧ s + k = m ∧ ((List.merge S P le).take m).Perm (S.take s ++ P.take k) ∧ ∀ x, S[s]? = some x → ∀ y ∈ P.take k, y.1 < x.1
  | [], P, _, m, hm => ⟨0, m, by simp, by simpa using hm, by omega, by simp, by simp⟩
  | S, [], _, m, hm => ⟨m, 0, by simpa using hm, by simp, by omega, by cases S <;> simp, by simp⟩
  | a :: S, b :: P, hS, 0, _ => ⟨0, 0, by simp, by simp, rfl, by simp, by simp⟩
  | a :: S, b :: P, hS, m + 1, hm => by
    by_cases h : le a b = true
    · obtain ⟨s, k, h1, h2, h3, h4, h5⟩ := merge_take S (b :: P) (List.pairwise_cons.1 hS).2 m (by simp at hm ⊢; omega)
      refine ⟨s + 1, k, by simp; omega, h2, by omega, ?_, by simpa using h5⟩
      rw [show List.merge (a :: S) (b :: P) le = a :: List.merge S (b :: P) le by rw [List.merge.eq_def]; simp [h]]
      simpa using h4
    · obtain ⟨s, k, h1, h2, h3, h4, h5⟩ := merge_take (a :: S) P hS m (by simp at hm ⊢; omega)
      refine ⟨s, k + 1, h1, by simp; omega, by omega, ?_, fun x hx y hy => ?_⟩
      · rw [show List.merge (a :: S) (b :: P) le = b :: List.merge (a :: S) P le by rw [List.merge.eq_def]; simp [h]]
        simp only [List.take_succ_cons]
        exact (h4.cons b).trans List.perm_middle.symm
      · simp only [List.take_succ_cons, List.mem_cons] at hy
        rcases hy with rfl | hy
        · have hab : y.1 < a.1 := by simpa [le] using h
          have : a.1 ≤ x.1 := by
            cases s with
            | zero => simp at hx; subst hx; exact Nat.le_refl _
            | succ s => exact (List.pairwise_cons.1 hS).1 x (List.mem_of_getElem? (by simpa using hx))
          omega
        · exact h5 x hx y hy
termination_by S P => S.length + P.length

def sm (f : Nat → Nat) : Nat → Nat
  | 0 => 0
  | n + 1 => sm f n + f n
theorem sm_congr {f g : Nat → Nat} : ∀ {n : Nat}, (∀ r, r < n → f r = g r) → sm f n = sm g n
  | 0, _ => rfl
  | n + 1, h => by rw [sm, sm, sm_congr (fun r hr => h r (by omega)), h n (by omega)]
theorem sm_add (f g : Nat → Nat) : ∀ n, sm (fun r => f r + g r) n = sm f n + sm g n
  | 0 => rfl
  | n + 1 => by rw [sm, sm, sm, sm_add f g n]; omega
theorem sm_if (s x : Nat) : ∀ n, s ≤ n → sm (fun r => if r < s then x else 0) n = s * x
  | 0, h => by have : s = 0 := by omega
               subst this; simp [sm]
  | n + 1, h => by
    by_cases e : s = n + 1
    · subst e
      rw [sm, sm_congr (g := fun r => if r < n then x else 0) (fun r hr => by rw [if_pos (by omega), if_pos hr]), sm_if n x n (Nat.le_refl _), if_pos (by omega), Nat.add_mul, Nat.one_mul]
    · rw [sm, sm_if s x n (by omega), if_neg (by omega)]; rfl

def sgl (w : Nat → Nat) (n : Nat) : List Coin := (List.range n).map (fun r => (w r, [r]))
def lst (w : Nat → Nat) (n : Nat) : Nat → List Coin
  | 0 => sgl w n
  | d + 1 => List.merge (sgl w n) (prs (lst w n d)) le
theorem len_sgl (w : Nat → Nat) (n : Nat) : (sgl w n).length = n := by simp [sgl]
theorem cnt_sgl (w : Nat → Nat) (r : Nat) : ∀ n, cnt (sgl w n) r = if r < n then 1 else 0
  | 0 => by simp [sgl, cnt]
  | n + 1 => by
    have ih := cnt_sgl w r n
    unfold sgl at ih ⊢
    rw [List.range_succ, List.map_append, cnt_append, ih]
    simp only [List.map_cons, List.map_nil, cnt_cons, cnt_nil, List.count_cons, List.count_nil, beq_iff_eq]
    by_cases e : n = r
    · subst e; simp
    · by_cases h : r < n
      · rw [if_pos h, if_neg e, if_pos (by omega)]
      · rw [if_neg h, if_neg e, if_neg (by omega)]
theorem take_sgl (w : Nat → Nat) {n s : Nat} (h : s ≤ n) : (sgl w n).take s = sgl w s := by
  unfold sgl
  rw [← List.map_take, List.take_range, Nat.min_eq_left h]
theorem mem_prs : ∀ (l : List Coin) (q : Coin → Prop), (∀ y ∈ l, q y) → (∀ a b, q a → q b → q (a.1 + b.1, a.2 ++ b.2)) → ∀ y ∈ prs l, q y
  | [], q, _, _ => by simp [prs]
  | [a], q, _, _ => by simp [prs]
  | a :: b :: l, q, h, hq => fun y hy => by
    simp only [prs, List.mem_cons] at hy
    rcases hy with rfl | hy
    · exact hq _ _ (h a (by simp)) (h b (by simp))
    · exact mem_prs l q (fun z hz => h z (by simp [hz])) hq y hy
/-- A packet weighs no less than each sign in it. -/
theorem lst_worth (w : Nat → Nat) (n : Nat) : ∀ d, ∀ y ∈ lst w n d, ∀ r ∈ y.2, r < n ∧ w r ≤ y.1
  | 0, y, hy => by
    simp only [lst, sgl, List.mem_map, List.mem_range] at hy
    obtain ⟨r, hr, rfl⟩ := hy
    intro r' hr'
    simp at hr'; subst hr'
    exact ⟨hr, Nat.le_refl _⟩
  | d + 1, y, hy => by
    rw [lst, List.mem_merge] at hy
    rcases hy with hy | hy
    · exact lst_worth w n 0 y hy
    · exact mem_prs (lst w n d) (fun y => ∀ r ∈ y.2, r < n ∧ w r ≤ y.1) (lst_worth w n d) (fun a b ha hb r hr => by
        rcases List.mem_append.1 hr with h | h
        · exact ⟨(ha r h).1, by have := (ha r h).2; simp; omega⟩
        · exact ⟨(hb r h).1, by have := (hb r h).2; simp; omega⟩) y hy
theorem sgl_sorted (w : Nat → Nat) (n : Nat) (hw : ∀ a b, a ≤ b → b < n → w a ≤ w b) : (sgl w n).Pairwise fun x y => x.1 ≤ y.1 := by
  unfold sgl
  rw [List.pairwise_map]
  refine List.Pairwise.imp_of_mem (R := fun a b => a < b) (fun {a b} _ hb h => hw a b (by omega) (by simpa using hb)) ?_
  exact List.pairwise_lt_range
theorem kraft (w : Nat → Nat) (n : Nat) (hw : ∀ a b, a ≤ b → b < n → w a ≤ w b) : ∀ d m, m ≤ (lst w n d).length →
    (∀ r, n ≤ r → cnt ((lst w n d).take m) r = 0) ∧ (∀ r, cnt ((lst w n d).take m) r ≤ d + 1) ∧ sm (fun r => 2 ^ (d + 2) - 2 ^ (d + 2 - cnt ((lst w n d).take m) r)) n = m * 2 ^ (d + 1)
  | 0, m, hm => by
    rw [lst, len_sgl] at hm
    have hc : ∀ r, cnt ((lst w n 0).take m) r = if r < m then 1 else 0 := fun r => by rw [lst, take_sgl w hm, cnt_sgl]
    refine ⟨fun r hr => by rw [hc, if_neg (by omega)], fun r => by rw [hc]; split <;> omega, ?_⟩
    rw [sm_congr (g := fun r => if r < m then 2 else 0) (fun r _ => by rw [hc]; split <;> rfl), sm_if m 2 n hm]
  | d + 1, m, hm => by
    obtain ⟨s, k, h1, h2, h3, h4, h5⟩ := merge_take (sgl w n) (prs (lst w n d)) (sgl_sorted w n hw) m (by rw [lst, List.length_merge] at hm; exact hm)
    rw [len_sgl] at h1
    rw [len_prs] at h2
    have h2k : 2 * k ≤ (lst w n d).length := by omega
    obtain ⟨i1, i2, i3⟩ := kraft w n hw d (2 * k) h2k
    have hc : ∀ r, cnt ((lst w n (d + 1)).take m) r = (if r < s then 1 else 0) + cnt ((lst w n d).take (2 * k)) r := fun r => by
      rw [lst, cnt_perm h4, cnt_append, take_sgl w h1, cnt_sgl, take_prs, cnt_prs _ (by rw [List.length_take]; omega)]
    have hz : ∀ r, s ≤ r → r < n → cnt ((lst w n d).take (2 * k)) r = 0 := fun r hr hn => by
      rcases Nat.eq_zero_or_pos (cnt ((lst w n d).take (2 * k)) r) with h | h
      · exact h
      · exfalso
        rw [← cnt_prs _ (by rw [List.length_take]; omega), ← take_prs] at h
        obtain ⟨y, hy, hry⟩ := List.mem_flatMap.1 (List.count_pos_iff.1 h)
        have hsn : s < n := by omega
        have q1 := h5 (w s, [s]) (by simp [sgl, hsn]) y hy
        have q2 := mem_prs (lst w n d) (fun y => ∀ r ∈ y.2, r < n ∧ w r ≤ y.1) (lst_worth w n d) (fun a b ha hb r hr => by
          rcases List.mem_append.1 hr with h | h
          · exact ⟨(ha r h).1, by have := (ha r h).2; simp; omega⟩
          · exact ⟨(hb r h).1, by have := (hb r h).2; simp; omega⟩) y (List.mem_of_mem_take hy) r hry
        have q3 := hw s r hr hn
        have := q2.2
        simp at q1
        omega
    refine ⟨fun r hr => by rw [hc, i1 r hr, if_neg (by omega)], fun r => by rw [hc]; have := i2 r; split <;> omega, ?_⟩
    have hstep : ∀ r, r < n → 2 ^ (d + 1 + 2) - 2 ^ (d + 1 + 2 - cnt ((lst w n (d + 1)).take m) r) = (if r < s then 2 ^ (d + 2) else 0) + (2 ^ (d + 2) - 2 ^ (d + 2 - cnt ((lst w n d).take (2 * k)) r)) := fun r hr => by
      rw [hc]
      have hp : 2 ^ (d + 1 + 2) = 2 * 2 ^ (d + 2) := by rw [show d + 1 + 2 = d + 2 + 1 by omega, Nat.pow_succ]; omega
      by_cases e : r < s
      · rw [if_pos e, if_pos e]
        have hle : 2 ^ (d + 2 - cnt ((lst w n d).take (2 * k)) r) ≤ 2 ^ (d + 2) := Nat.pow_le_pow_right (by omega) (by omega)
        have := i2 r
        rw [show d + 1 + 2 - (1 + cnt ((lst w n d).take (2 * k)) r) = d + 2 - cnt ((lst w n d).take (2 * k)) r by omega]
        omega
      · rw [if_neg e, if_neg e, hz r (by omega) hr]
        simp
    rw [sm_congr hstep, sm_add, sm_if s _ n h1, i3, ← h3, Nat.add_mul, Nat.pow_succ 2 (d + 1)]
    rw [show (2 * k) * 2 ^ (d + 1) = k * (2 ^ (d + 1) * 2) by rw [Nat.mul_comm 2 k, Nat.mul_assoc, Nat.mul_comm 2]]
/-- How long the lists are: what lacks of 2n halves from depth to depth. -/
theorem lst_len (w : Nat → Nat) (n : Nat) (hn : 1 ≤ n) : ∀ d, (lst w n d).length ≤ 2 * n ∧ (2 * n - (lst w n d).length) * 2 ^ d < n + 2 ^ d ∧ n ≤ (lst w n d).length
  | 0 => by rw [lst, len_sgl]; simp; omega
  | d + 1 => by
    obtain ⟨h1, h2, h3⟩ := lst_len w n hn d
    rw [lst, List.length_merge, len_sgl, len_prs]
    refine ⟨by omega, ?_, by omega⟩
    generalize (lst w n d).length = L at *
    obtain ⟨x, hx⟩ : ∃ x, x = 2 * n - L := ⟨_, rfl⟩
    have hy : 2 * n - (n + L / 2) ≤ (x + 1) / 2 := by omega
    rw [← hx] at h2
    have hp := Nat.pow_pos (n := d) (show 0 < 2 by omega)
    have hpp : 2 ^ (d + 1) = 2 ^ d * 2 := Nat.pow_succ ..
    have h4 : (2 * n - (n + L / 2)) * 2 ^ (d + 1) ≤ (x + 1) * 2 ^ d := by
      rw [hpp]
      calc (2 * n - (n + L / 2)) * (2 ^ d * 2) = (2 * n - (n + L / 2)) * 2 * 2 ^ d := by rw [Nat.mul_comm (2 ^ d) 2, Nat.mul_assoc]
        _ ≤ (x + 1) * 2 ^ d := Nat.mul_le_mul_right _ (by omega)
    rw [Nat.add_mul, Nat.one_mul] at h4
    omega
/-- At the last depth there are 2n - 2 packets. -/
theorem lst_enough (w : Nat → Nat) (n most : Nat) (hn : 1 ≤ n) (hm : 1 ≤ most) (h : n ≤ 2 ^ most) : 2 * n - 2 ≤ (lst w n (most - 1)).length := by
  obtain ⟨d, rfl⟩ : ∃ d, most = d + 1 := ⟨most - 1, by omega⟩
  obtain ⟨h1, h2, h3⟩ := lst_len w n hn d
  rw [Nat.add_sub_cancel]
  have hpp : 2 ^ (d + 1) = 2 ^ d * 2 := Nat.pow_succ ..
  rcases Nat.lt_or_ge (2 * n - (lst w n d).length) 3 with hlt | hge
  · omega
  · exfalso
    have : 3 * 2 ^ d ≤ (2 * n - (lst w n d).length) * 2 ^ d := Nat.mul_le_mul_right _ hge
    omega
theorem sm_const (x : Nat) : ∀ n, sm (fun _ => x) n = n * x
  | 0 => by simp [sm]
  | n + 1 => by rw [sm, sm_const x n, Nat.add_mul, Nat.one_mul]
theorem sm_mul (x : Nat) (f : Nat → Nat) : ∀ n, sm (fun r => x * f r) n = x * sm f n
  | 0 => rfl
  | n + 1 => by rw [sm, sm, sm_mul x f n, Nat.mul_add]
theorem sm_pos {f : Nat → Nat} {x : Nat} : ∀ {n r : Nat}, r < n → f r = x → (∀ q, q < n → 1 ≤ f q) → x + (n - 1) ≤ sm f n
  | n + 1, r, h, e, hp => by
    have hall : ∀ m, m ≤ n + 1 → m ≤ sm f m := by
      intro m
      induction m with
      | zero => intro _; exact Nat.zero_le _
      | succ m ih => intro hm; rw [sm]; have := ih (by omega); have := hp m (by omega); omega
    rw [sm]
    by_cases e2 : r = n
    · subst e2; rw [e]; have := hall r (by omega); omega
    · have := sm_pos (n := n) (r := r) (by omega) e (fun q hq => hp q (by omega)); have := hp n (by omega); omega
/-- The lengths that come out: each may be, and together they fill all. -/
theorem lens_fill (w : Nat → Nat) (n most : Nat) (hw : ∀ a b, a ≤ b → b < n → w a ≤ w b) (hn : 2 ≤ n) (hm : 1 ≤ most) (h : n ≤ 2 ^ most) :
    (∀ r, r < n → 1 ≤ cnt ((lst w n (most - 1)).take (2 * n - 2)) r ∧ cnt ((lst w n (most - 1)).take (2 * n - 2)) r ≤ most) ∧
    sm (fun r => 2 ^ (most - cnt ((lst w n (most - 1)).take (2 * n - 2)) r)) n = 2 ^ most := by
  have he := lst_enough w n most (by omega) hm h
  obtain ⟨d, rfl⟩ : ∃ d, most = d + 1 := ⟨most - 1, by omega⟩
  rw [Nat.add_sub_cancel] at *
  obtain ⟨_, k2, k3⟩ := kraft w n hw d (2 * n - 2) he
  generalize hc : (fun r => cnt ((lst w n d).take (2 * n - 2)) r) = c at *
  have hcr : ∀ r, cnt ((lst w n d).take (2 * n - 2)) r = c r := fun r => by rw [← hc]
  simp only [hcr] at k2 k3 ⊢
  have hsum : sm (fun r => 2 ^ (d + 1 - c r)) n = 2 ^ (d + 1) := by
    have e : sm (fun r => (2 ^ (d + 2) - 2 ^ (d + 2 - c r)) + 2 * 2 ^ (d + 1 - c r)) n = sm (fun _ => 2 ^ (d + 2)) n := sm_congr fun r _ => by
      have := k2 r
      have hle : 2 ^ (d + 2 - c r) ≤ 2 ^ (d + 2) := Nat.pow_le_pow_right (by omega) (by omega)
      have hs : 2 ^ (d + 2 - c r) = 2 * 2 ^ (d + 1 - c r) := by rw [show d + 2 - c r = d + 1 - c r + 1 by omega, Nat.pow_succ]; omega
      omega
    rw [sm_add, k3, sm_const] at e
    rw [sm_mul, Nat.sub_mul] at e
    have hp : n * 2 ^ (d + 2) = 2 * n * 2 ^ (d + 1) := by rw [Nat.pow_succ 2 (d + 1), Nat.mul_comm 2 n, Nat.mul_assoc, Nat.mul_comm 2 (2 ^ (d + 1))]
    have hle : 2 * 2 ^ (d + 1) ≤ 2 * n * 2 ^ (d + 1) := Nat.mul_le_mul_right _ (by omega)
    omega
  refine ⟨fun r hr => ⟨?_, k2 r⟩, hsum⟩
  rcases Nat.eq_zero_or_pos (c r) with h0 | h0
  · have := sm_pos (f := fun r => 2 ^ (d + 1 - c r)) hr (x := 2 ^ (d + 1)) (by simp [h0]) (fun q _ => Nat.pow_pos (by omega))
    omega
  · exact h0
end Go.Proofs.Ytoncakcfibahaaa.Ht
