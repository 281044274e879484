/- Packets: from ranks to places: plain. -/
import Derived.Test.YtoncakcfibahaaaHtP
namespace Go.Proofs.Ytoncakcfibahaaa.Ht

def rl (g : Nat → Nat) (l : List Coin) : List Coin := l.map (fun y => (y.1, y.2.map g))
theorem rl_prs (g : Nat → Nat) : ∀ l, prs (rl g l) = rl g (prs l)
  | [] => rfl
  | [a] => by simp [rl, prs]
  | a :: b :: l => by
    have := rl_prs g l
    unfold rl at this ⊢
    simp [prs, this]
theorem rl_merge (g : Nat → Nat) : ∀ (a b : List Coin), List.merge (rl g a) (rl g b) le = rl g (List.merge a b le)
  | [], b => by simp [rl]
  | a, [] => by cases a <;> simp [rl]
  | x :: a, y :: b => by
    have h1 := rl_merge g a (y :: b)
    have h2 := rl_merge g (x :: a) b
    unfold rl at h1 h2 ⊢
    simp only [List.map_cons] at h1 h2 ⊢
    rw [List.merge.eq_def, List.merge.eq_def]
    by_cases h : le x y = true
    · have h' : le (x.1, x.2.map g) (y.1, y.2.map g) = true := h
      simp [h, h', h1]
    · have h' : ¬ le (x.1, x.2.map g) (y.1, y.2.map g) = true := h
      simp [h, h', h2]
termination_by a b => a.length + b.length
theorem rl_take (g : Nat → Nat) (l : List Coin) (m : Nat) : (rl g l).take m = rl g (l.take m) := by simp [rl, List.map_take]
/-- The lists with places in them. -/
def lstP (S : List Coin) : Nat → List Coin
  | 0 => S
  | d + 1 => List.merge S (prs (lstP S d)) le
theorem lstP_eq (w g : Nat → Nat) (n : Nat) : ∀ d, lstP (rl g (sgl w n)) d = rl g (lst w n d)
  | 0 => rfl
  | d + 1 => by rw [lstP, lst, lstP_eq w g n d, rl_prs, rl_merge]
theorem count_inj {g : Nat → Nat} {n : Nat} (hg : ∀ a b, a < n → b < n → g a = g b → a = b) {r : Nat} (hr : r < n) : ∀ (s : List Nat), (∀ q ∈ s, q < n) → (s.map g).count (g r) = s.count r
  | [], _ => rfl
  | a :: s, h => by
    have ih := count_inj hg hr s (fun q hq => h q (by simp [hq]))
    rw [List.map_cons, List.count_cons, List.count_cons, ih]
    by_cases e : a = r
    · subst e; simp
    · have e2 : ¬ g a = g r := fun x => e (hg a r (h a (by simp)) hr x)
      simp [e, e2]
theorem cnt_rl {g : Nat → Nat} {n : Nat} (hg : ∀ a b, a < n → b < n → g a = g b → a = b) {r : Nat} (hr : r < n) : ∀ (l : List Coin), (∀ y ∈ l, ∀ q ∈ y.2, q < n) → cnt (rl g l) (g r) = cnt l r
  | [], _ => rfl
  | y :: l, h => by
    have ih := cnt_rl hg hr l (fun z hz => h z (by simp [hz]))
    unfold rl at ih ⊢
    rw [List.map_cons, cnt_cons, cnt_cons, ih, count_inj hg hr y.2 (h y (by simp))]
theorem cnt_rl_none {g : Nat → Nat} {n x : Nat} (hx : ∀ r, r < n → g r ≠ x) : ∀ (l : List Coin), (∀ y ∈ l, ∀ q ∈ y.2, q < n) → cnt (rl g l) x = 0
  | [], _ => rfl
  | y :: l, h => by
    have ih := cnt_rl_none hx l (fun z hz => h z (by simp [hz]))
    unfold rl at ih ⊢
    rw [List.map_cons, cnt_cons, ih, Nat.add_zero]
    refine List.count_eq_zero.2 (fun hm => ?_)
    obtain ⟨q, q1, q2⟩ := List.mem_map.1 hm
    exact hx q (h y (by simp) q q1) q2
end Go.Proofs.Ytoncakcfibahaaa.Ht
