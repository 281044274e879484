/- Which cells are best cleaned: the order, a heap, and what comes out of it: plain. -/
import Derived.Test.YtcjidphichlhgaaBtP
namespace Go.Proofs.Ytcjidphichlhgaa.Pk

structure OneV where
  at_ : Int
  live : Int
  age : Int
  deriving Inhabited
def gain (x y : OneV) : Int := (1000 - x.live) * (x.age + 1) * (1000 + y.live)
def bet (x y : OneV) : Bool := decide (gain y x < gain x y) || (decide (gain x y = gain y x) && decide (x.at_ < y.at_))
structure OneOk (x : OneV) : Prop where
  l0 : 0 ≤ x.live
  l1 : x.live ≤ 1000
  a0 : 0 ≤ x.age
  a1 : x.age ≤ 2147483647
/-- x comes no later than y. -/
def Le (x y : OneV) : Prop := bet y x = false
theorem le_iff (x y : OneV) : Le x y ↔ gain y x < gain x y ∨ (gain y x = gain x y ∧ x.at_ ≤ y.at_) := by
  unfold Le bet
  simp only [Bool.or_eq_false_iff, decide_eq_false_iff_not, Bool.and_eq_false_iff]
  omega
theorem bet_iff (x y : OneV) : bet x y = true ↔ ¬ Le y x := by unfold Le; simp
theorem le_total (x y : OneV) : Le x y ∨ Le y x := by rw [le_iff, le_iff]; omega
theorem le_refl (x : OneV) : Le x x := by rw [le_iff]; omega
theorem le_of_bet {x y : OneV} (h : bet x y = true) : Le x y := by
  rcases le_total x y with h1 | h1
  · exact h1
  · exact absurd h1 ((bet_iff x y).1 h)
theorem le_antisymm {x y : OneV} (h1 : Le x y) (h2 : Le y x) : x.at_ = y.at_ := by rw [le_iff] at h1 h2; omega
theorem le_trans {x y z : OneV} (hx : OneOk x) (hy : OneOk y) (hz : OneOk z) (h1 : Le x y) (h2 : Le y z) : Le x z := by
  rw [le_iff] at h1 h2 ⊢
  unfold gain at *
  have dx : 0 < 1000 + x.live := by have := hx.l0; omega
  have dy : 0 < 1000 + y.live := by have := hy.l0; omega
  have dz : 0 < 1000 + z.live := by have := hz.l0; omega
  generalize (1000 - x.live) * (x.age + 1) = nx at *
  generalize (1000 - y.live) * (y.age + 1) = ny at *
  generalize (1000 - z.live) * (z.age + 1) = nz at *
  generalize 1000 + x.live = a at *
  generalize 1000 + y.live = b at *
  generalize 1000 + z.live = c at *
  have e1 : ny * a ≤ nx * b := by omega
  have e2 : nz * b ≤ ny * c := by omega
  have m1 : ny * a * c ≤ nx * b * c := Int.mul_le_mul_of_nonneg_right e1 (Int.le_of_lt dz)
  have m2 : nz * b * a ≤ ny * c * a := Int.mul_le_mul_of_nonneg_right e2 (Int.le_of_lt dx)
  have q1 : ny * a * c = ny * c * a := by rw [Int.mul_assoc, Int.mul_comm a c, ← Int.mul_assoc]
  have q2 : nz * b * a = nz * a * b := by rw [Int.mul_assoc, Int.mul_comm b a, ← Int.mul_assoc]
  have q3 : nx * b * c = nx * c * b := by rw [Int.mul_assoc, Int.mul_comm b c, ← Int.mul_assoc]
  rw [q1, q3] at m1
  rw [q2] at m2
  have m3 : nz * a * b ≤ nx * c * b := Int.le_trans m2 m1
  have m4 : nz * a ≤ nx * c := Int.le_of_mul_le_mul_right m3 dy
  rcases Int.lt_or_eq_of_le m4 with h | h
  · exact .inl h
  · right
    refine ⟨h, ?_⟩
    have m5 : nz * a * b = nx * c * b := by rw [h]
    have f1 : ny * c * a = nx * c * b := by omega
    have f2 : nz * a * b = ny * c * a := by omega
    have g1 : ny * a = nx * b := by
      rcases h1 with h1 | h1
      · exfalso
        have := Int.mul_lt_mul_of_pos_right h1 dz
        rw [q1, q3] at this; omega
      · exact h1.1
    have g2 : nz * b = ny * c := by
      rcases h2 with h2 | h2
      · exfalso
        have := Int.mul_lt_mul_of_pos_right h2 dx
        rw [q2] at this; omega
      · exact h2.1
    omega
/-! ### A heap in a list -/
def swp (l : List OneV) (i j : Nat) : List OneV := (l.set i (l.getD j default)).set j (l.getD i default)
theorem swp_len (l : List OneV) (i j : Nat) : (swp l i j).length = l.length := by simp [swp]
theorem swp_get {l : List OneV} {i j k : Nat} (hi : i < l.length) (hj : j < l.length) : (swp l i j).getD k default = if k = j then l.getD i default else if k = i then l.getD j default else l.getD k default := by
  unfold swp
  simp only [List.getD_eq_getElem?_getD, List.getElem?_set, List.length_set]
  by_cases h1 : k = j
  · subst h1
    rw [if_pos rfl, if_pos rfl, if_pos hj]; rfl
  · rw [if_neg (fun e => h1 e.symm), if_neg h1]
    by_cases h2 : k = i
    · subst h2
      rw [if_pos rfl, if_pos rfl, if_pos hi]; rfl
    · rw [if_neg (fun e => h2 e.symm), if_neg h2]
theorem swp_perm {l : List OneV} {i j : Nat} (hi : i < l.length) (hj : j < l.length) : (swp l i j).Perm l := by
  unfold swp
  rw [List.getD_eq_getElem?_getD, List.getD_eq_getElem?_getD, List.getElem?_eq_getElem hi, List.getElem?_eq_getElem hj]
  exact List.set_set_perm hi hj
def childB (k p : Nat) : Prop := k = 2 * p + 1 ∨ k = 2 * p + 2
def HP (l : List OneV) (lo n : Nat) : Prop := ∀ p k, lo ≤ p → k < n → childB k p → Le (l.getD p default) (l.getD k default)
structure Almost (l : List OneV) (lo n i : Nat) : Prop where
  a1 : ∀ p k, lo ≤ p → p ≠ i → k < n → childB k p → Le (l.getD p default) (l.getD k default)
  a2 : ∀ p k, lo ≤ p → childB i p → childB k i → k < n → Le (l.getD p default) (l.getD k default)
  lo_ : lo ≤ i
/-- The better of the two children. -/
def kid (l : List OneV) (i n : Nat) : Nat := if 2 * i + 2 < n ∧ bet (l.getD (2 * i + 2) default) (l.getD (2 * i + 1) default) = true then 2 * i + 2 else 2 * i + 1
def sift (l : List OneV) (i n : Nat) : List OneV :=
  if _h : 2 * i + 1 < n then
    if bet (l.getD (kid l i n) default) (l.getD i default) = true then sift (swp l i (kid l i n)) (kid l i n) n else l
  else l
termination_by n - i
decreasing_by unfold kid; split <;> omega
theorem kid_or (l : List OneV) (i n : Nat) : kid l i n = 2 * i + 1 ∨ kid l i n = 2 * i + 2 ∧ 2 * i + 2 < n := by
  unfold kid; split
  · rename_i h; exact .inr ⟨rfl, h.1⟩
  · exact .inl rfl
theorem kid_best {l : List OneV} {i n k : Nat} (hk : childB k i) (hn : k < n) : Le (l.getD (kid l i n) default) (l.getD k default) := by
  unfold kid
  rcases hk with rfl | rfl
  · split
    · rename_i h; exact le_of_bet h.2
    · exact le_refl _
  · split
    · exact le_refl _
    · rename_i h
      have : ¬ bet (l.getD (2 * i + 2) default) (l.getD (2 * i + 1) default) = true := fun e => h ⟨hn, e⟩
      unfold Le; simpa using this
theorem sift_stop {l : List OneV} {i n : Nat} (h : ¬ 2 * i + 1 < n) : sift l i n = l := by rw [sift, dif_neg h]
theorem sift_rest {l : List OneV} {i n : Nat} (h : 2 * i + 1 < n) (hb : bet (l.getD (kid l i n) default) (l.getD i default) = false) : sift l i n = l := by
  rw [sift, dif_pos h, if_neg (by rw [hb]; decide)]
theorem sift_down {l : List OneV} {i n : Nat} (h : 2 * i + 1 < n) (hb : bet (l.getD (kid l i n) default) (l.getD i default) = true) : sift l i n = sift (swp l i (kid l i n)) (kid l i n) n := by
  rw [sift, dif_pos h, if_pos hb]
theorem kid_lt {l : List OneV} {i n : Nat} (h : 2 * i + 1 < n) : i < kid l i n ∧ kid l i n < n := by
  rcases kid_or l i n with e | ⟨e, e2⟩ <;> omega
theorem sift_len : ∀ (m : Nat) (l : List OneV) (i n : Nat), n - i ≤ m → (sift l i n).length = l.length
  | 0, l, i, n, hm => by rw [sift_stop (by omega)]
  | m + 1, l, i, n, hm => by
    by_cases h : 2 * i + 1 < n
    · have hk := kid_lt (l := l) h
      by_cases hb : bet (l.getD (kid l i n) default) (l.getD i default) = true
      · rw [sift_down h hb, sift_len m _ _ _ (by omega), swp_len]
      · rw [sift_rest h (by simpa using hb)]
    · rw [sift_stop h]
/-- It moves what stands ahead of n alone, and loses nothing. -/
theorem sift_perm : ∀ (m : Nat) (l : List OneV) (i n : Nat), n - i ≤ m → n ≤ l.length → (sift l i n).Perm l ∧ ∀ k, n ≤ k → (sift l i n).getD k default = l.getD k default
  | 0, l, i, n, hm, hn => by rw [sift_stop (by omega)]; exact ⟨List.Perm.refl _, fun _ _ => rfl⟩
  | m + 1, l, i, n, hm, hn => by
    by_cases h : 2 * i + 1 < n
    · have hk := kid_lt (l := l) h
      by_cases hb : bet (l.getD (kid l i n) default) (l.getD i default) = true
      · rw [sift_down h hb]
        obtain ⟨h1, h2⟩ := sift_perm m (swp l i (kid l i n)) (kid l i n) n (by omega) (by rw [swp_len]; exact hn)
        refine ⟨h1.trans (swp_perm (by omega) (by omega)), fun k hk2 => ?_⟩
        rw [h2 k hk2, swp_get (by omega) (by omega), if_neg (by omega), if_neg (by omega)]
      · rw [sift_rest h (by simpa using hb)]; exact ⟨List.Perm.refl _, fun _ _ => rfl⟩
    · rw [sift_stop h]; exact ⟨List.Perm.refl _, fun _ _ => rfl⟩
theorem sift_heap : ∀ (m : Nat) (l : List OneV) (lo i n : Nat), n - i ≤ m → n ≤ l.length → (∀ x ∈ l, OneOk x) → Almost l lo n i → HP (sift l i n) lo n
  | m, l, lo, i, n, hm, hn, hok, ha => by
    have hg : ∀ k, k < n → OneOk (l.getD k default) := fun k hk => by
      rw [List.getD_eq_getElem?_getD, List.getElem?_eq_getElem (by omega)]; exact hok _ (List.getElem_mem _)
    by_cases h : 2 * i + 1 < n
    · have hk := kid_lt (l := l) h
      have hkc : childB (kid l i n) i := by rcases kid_or l i n with e | ⟨e, _⟩ <;> simp [childB, e]
      by_cases hb : bet (l.getD (kid l i n) default) (l.getD i default) = true
      · rw [sift_down h hb]
        cases m with
        | zero => omega
        | succ m =>
          refine sift_heap m _ lo _ n (by omega) (by rw [swp_len]; exact hn) (fun x hx => hok x ((swp_perm (by omega) (by omega)).mem_iff.1 hx)) ⟨fun p k hp hpj hk2 hc => ?_, fun p k hp hc hc2 hk2 => ?_, by have := ha.lo_; omega⟩
          · have hik : i < l.length := by omega
            have hkk : kid l i n < l.length := by omega
            rw [swp_get hik hkk, swp_get hik hkk, if_neg hpj]
            by_cases hpi : p = i
            · subst hpi
              rw [if_pos rfl]
              by_cases hkj : k = kid l p n
              · rw [if_pos hkj]; exact le_of_bet hb
              · rw [if_neg hkj, if_neg (by rcases hc with rfl | rfl <;> omega)]
                exact kid_best hc hk2
            · rw [if_neg hpi]
              by_cases hkj : k = kid l i n
              · exfalso
                rcases hc with e | e <;> rcases hkc with e2 | e2 <;> omega
              · rw [if_neg hkj]
                by_cases hki : k = i
                · subst hki
                  rw [if_pos rfl]
                  exact ha.a2 p (kid l k n) hp hc hkc hk.2
                · rw [if_neg hki]; exact ha.a1 p k hp hpi hk2 hc
          · have hik : i < l.length := by omega
            have hkk : kid l i n < l.length := by omega
            have hpi : p = i := by rcases hc with e | e <;> rcases hkc with e2 | e2 <;> omega
            subst hpi
            have hkj : k ≠ kid l p n := by rcases hc2 with e | e <;> omega
            have hki : k ≠ p := by rcases hc2 with e | e <;> omega
            rw [swp_get hik hkk, swp_get hik hkk, if_neg (by omega), if_pos rfl, if_neg hkj, if_neg hki]
            exact ha.a1 _ k (by omega) (by omega) hk2 hc2
      · rw [sift_rest h (by simpa using hb)]
        intro p k hp hk2 hc
        by_cases hpi : p = i
        · subst hpi
          have h1 : Le (l.getD p default) (l.getD (kid l p n) default) := by unfold Le; simpa using hb
          exact le_trans (hg _ (by omega)) (hg _ hk.2) (hg _ hk2) h1 (kid_best hc hk2)
        · exact ha.a1 p k hp hpi hk2 hc
    · rw [sift_stop h]
      intro p k hp hk2 hc
      exact ha.a1 p k hp (fun e => by subst e; rcases hc with e | e <;> omega) hk2 hc
/-- In a heap nothing comes ahead of the first. -/
theorem heap_top {l : List OneV} {n : Nat} (h : HP l 0 n) (hok : ∀ k, k < n → OneOk (l.getD k default)) : ∀ (m k : Nat), k ≤ m → k < n → Le (l.getD 0 default) (l.getD k default)
  | 0, k, hm, hk => by rw [show k = 0 by omega]; exact le_refl _
  | m + 1, k, hm, hk => by
    by_cases h0 : k = 0
    · subst h0; exact le_refl _
    · have ih := heap_top h hok m ((k - 1) / 2) (by omega) (by omega)
      have h1 := h ((k - 1) / 2) k (Nat.zero_le _) hk (by unfold childB; omega)
      exact le_trans (hok _ (by omega)) (hok _ (by omega)) (hok _ hk) ih h1
end Go.Proofs.Ytcjidphichlhgaa.Pk
