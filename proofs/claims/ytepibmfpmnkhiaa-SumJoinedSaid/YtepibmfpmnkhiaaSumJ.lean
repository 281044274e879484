/- Sums joined: linear maps of words, plain. -/
import Derived.Test.YtepibmfpmnkhiaaSumP
namespace Go.Proofs.Ytepibmfpmnkhiaa

def it {α : Type} (f : α → α) : Nat → α → α
  | 0, x => x
  | n + 1, x => it f n (f x)
theorem it_add {α : Type} (f : α → α) (m n : Nat) (x : α) : it f (m + n) x = it f n (it f m x) := by
  induction m generalizing x with
  | zero => simp [it]
  | succ m ih => rw [Nat.add_right_comm]; simp only [it]; exact ih (f x)
theorem it_succ {α : Type} (f : α → α) (n : Nat) (x : α) : it f (n + 1) x = f (it f n x) := by
  rw [it_add f n 1 x]; rfl
def Lin (f : W32 → W32) : Prop := ∀ a b, f (a ^^^ b) = f a ^^^ f b
theorem Lin.zero {f : W32 → W32} (h : Lin f) : f 0#32 = 0#32 := by
  have := h 0#32 0#32
  simpa using this
theorem Lin.comp {f g : W32 → W32} (h : Lin f) (k : Lin g) : Lin (fun x => f (g x)) := fun a b => by simp only [k a b, h (g a) (g b)]
theorem Lin.it {f : W32 → W32} (h : Lin f) : ∀ n, Lin (it f n)
  | 0 => fun _ _ => rfl
  | n + 1 => fun a b => by simp only [Go.Proofs.Ytepibmfpmnkhiaa.it]; rw [h a b]; exact h.it n (f a) (f b)
def lowTo (c : W32) : Nat → W32
  | 0 => 0#32
  | k + 1 => lowTo c k ^^^ (if c.getLsbD k then 1#32 <<< k else 0#32)
theorem one_shl_bit (k i : Nat) (hk : k < 32) : (1#32 <<< k : W32).getLsbD i = decide (i = k) := by
  rw [BitVec.getLsbD_shiftLeft, BitVec.getLsbD_one]
  by_cases h : i = k
  · subst h; simp; omega
  · by_cases h1 : i < k
    · simp [h1, h]
    · have : i - k ≠ 0 := by omega
      simp [h, this]
theorem lowTo_bit (c : W32) : ∀ (k i : Nat), k ≤ 32 → (lowTo c k).getLsbD i = (decide (i < k) && c.getLsbD i)
  | 0, i, _ => by simp [lowTo]
  | k + 1, i, h => by
    simp only [lowTo, BitVec.getLsbD_xor, lowTo_bit c k i (by omega)]
    by_cases hb : c.getLsbD k
    · rw [if_pos hb, one_shl_bit k i (by omega)]
      by_cases e : i = k
      · subst e; simp [hb]
      · by_cases e2 : i < k
        · have : i < k + 1 := by omega
          simp [e, e2, this]
        · have : ¬ i < k + 1 := by omega
          simp [e, e2, this]
    · rw [if_neg hb]
      by_cases e : i = k
      · subst e; simp [hb]
      · by_cases e2 : i < k
        · have : i < k + 1 := by omega
          simp [e2, this]
        · have : ¬ i < k + 1 := by omega
          simp [e2, this]
theorem lowTo_all (c : W32) : lowTo c 32 = c := by
  apply BitVec.eq_of_getLsbD_eq
  intro i hi
  rw [lowTo_bit c 32 i (Nat.le_refl _)]; simp [hi]
/-- A linear map from its rows. -/
def ofTo (m : Nat → W32) (c : W32) : Nat → W32
  | 0 => 0#32
  | k + 1 => if c.getLsbD k then ofTo m c k ^^^ m k else ofTo m c k
theorem ofTo_lin {f : W32 → W32} (h : Lin f) (c : W32) : ∀ k, ofTo (fun i => f (1#32 <<< i)) c k = f (lowTo c k)
  | 0 => by simp [ofTo, lowTo, h.zero]
  | k + 1 => by
    simp only [ofTo, lowTo]
    by_cases hb : c.getLsbD k
    · rw [if_pos hb, if_pos hb, h, ofTo_lin h c k]
    · rw [if_neg hb, if_neg hb, ofTo_lin h c k]; simp
theorem of_lin {f : W32 → W32} (h : Lin f) (c : W32) : ofTo (fun i => f (1#32 <<< i)) c 32 = f c := by rw [ofTo_lin h, lowTo_all]
theorem lin_ext {f g : W32 → W32} (hf : Lin f) (hg : Lin g) (h : ∀ i, i < 32 → f (1#32 <<< i) = g (1#32 <<< i)) (c : W32) : f c = g c := by
  rw [← of_lin hf c, ← of_lin hg c]
  have : ∀ k, k ≤ 32 → ofTo (fun i => f (1#32 <<< i)) c k = ofTo (fun i => g (1#32 <<< i)) c k := by
    intro k
    induction k with
    | zero => intro _; rfl
    | succ k ih => intro hk; simp only [ofTo]; rw [ih (by omega), h k (by omega)]
  exact this 32 (Nat.le_refl _)
/-- The polynomial side. -/
theorem times_turn (x : W32) : crcTimes x = turn (crcStep (turn x)) := by rw [turn_step, turn_turn]
theorem times_lin : Lin crcTimes := fun a b => by rw [times_turn, times_turn, times_turn, turn_xor, step_xor, turn_xor]
def prodTo (a b : W32) : Nat → W32
  | 0 => 0#32
  | k + 1 => if b.getLsbD (31 - k) then crcTimes (prodTo a b k) ^^^ a else crcTimes (prodTo a b k)
def prod (a b : W32) : W32 := prodTo a b 32
theorem x3a (a p q : W32) : a ^^^ (p ^^^ q) = p ^^^ (a ^^^ q) := by rw [← BitVec.xor_assoc, BitVec.xor_comm a p, BitVec.xor_assoc]
theorem prodTo_b (a b c : W32) : ∀ k, prodTo a (b ^^^ c) k = prodTo a b k ^^^ prodTo a c k
  | 0 => by simp [prodTo]
  | k + 1 => by
    simp only [prodTo, BitVec.getLsbD_xor, prodTo_b a b c k, times_lin (prodTo a b k) (prodTo a c k)]
    generalize crcTimes (prodTo a b k) = p
    generalize crcTimes (prodTo a c k) = q
    cases b.getLsbD (31 - k) <;> cases c.getLsbD (31 - k)
    · rfl
    · exact BitVec.xor_assoc p q a
    · show (p ^^^ q) ^^^ a = (p ^^^ a) ^^^ q
      rw [BitVec.xor_assoc, BitVec.xor_comm q a, ← BitVec.xor_assoc]
    · show p ^^^ q = (p ^^^ a) ^^^ (q ^^^ a)
      rw [BitVec.xor_assoc p a, x3a a q a, BitVec.xor_self, BitVec.xor_zero]
theorem prodTo_a (a b c : W32) : ∀ k, prodTo (a ^^^ b) c k = prodTo a c k ^^^ prodTo b c k
  | 0 => by simp [prodTo]
  | k + 1 => by
    simp only [prodTo, prodTo_a a b c k, times_lin (prodTo a c k) (prodTo b c k)]
    generalize crcTimes (prodTo a c k) = p
    generalize crcTimes (prodTo b c k) = q
    cases c.getLsbD (31 - k)
    · rfl
    · show (p ^^^ q) ^^^ (a ^^^ b) = (p ^^^ a) ^^^ (q ^^^ b)
      rw [BitVec.xor_assoc p q, BitVec.xor_assoc p a, x3a q a b]
theorem prodTo_one (a : W32) (i : Nat) (hi : i < 32) : ∀ k, k ≤ 32 → prodTo a (1#32 <<< i) k = if k ≤ 31 - i then 0#32 else it crcTimes (k - (32 - i)) a
  | 0, _ => by simp [prodTo]
  | k + 1, hk => by
    simp only [prodTo]
    rw [prodTo_one a i hi k (by omega), one_shl_bit i _ hi]
    by_cases e : 31 - k = i
    · rw [if_pos (by simpa using e), if_pos (by omega), if_neg (by omega), show k + 1 - (32 - i) = 0 by omega, times_lin.zero]
      simp [it]
    · rw [if_neg (by simpa using e)]
      by_cases h : k ≤ 31 - i
      · rw [if_pos h, if_pos (by omega), times_lin.zero]
      · rw [if_neg h, if_neg (by omega), show k + 1 - (32 - i) = (k - (32 - i)) + 1 by omega, it_succ]
theorem prod_one (a : W32) (i : Nat) (hi : i < 32) : prod a (1#32 <<< i) = it crcTimes i a := by
  unfold prod
  rw [prodTo_one a i hi 32 (Nat.le_refl _)]
  by_cases h : 32 ≤ 31 - i
  · omega
  · rw [if_neg h, show 32 - (32 - i) = i by omega]
theorem prod_Q_base : ∀ j : Fin 32, prod (1#32 <<< j.val) crcQ = it crcTimes 32 (1#32 <<< j.val) := by decide +kernel
theorem prod_Q (a : W32) : prod a crcQ = it crcTimes 32 a :=
  lin_ext (f := fun a => prod a crcQ) (fun x y => prodTo_a x y crcQ 32) (times_lin.it 32) (fun i hi => prod_Q_base ⟨i, hi⟩) a
theorem times_base : ∀ i : Fin 31, crcTimes (1#32 <<< i.val) = 1#32 <<< (i.val + 1) := by decide +kernel
theorem times_top : crcTimes (1#32 <<< 31) = crcQ := by decide +kernel
theorem prod_times (a b : W32) : prod a (crcTimes b) = crcTimes (prod a b) := by
  refine lin_ext (f := fun b => prod a (crcTimes b)) (g := fun b => crcTimes (prod a b)) ?_ ?_ ?_ b
  · intro x y; simp only [times_lin x y]; exact prodTo_b a _ _ 32
  · intro x y; simp only [prod, prodTo_b a x y 32]; exact times_lin _ _
  · intro i hi
    show prod a (crcTimes (1#32 <<< i)) = crcTimes (prod a (1#32 <<< i))
    rw [prod_one a i hi, ← it_succ crcTimes i a]
    by_cases h : i < 31
    · rw [times_base ⟨i, h⟩]; exact prod_one a (i + 1) (by omega)
    · obtain rfl : i = 31 := by omega
      rw [times_top]; exact prod_Q a
theorem prod_pow (a : W32) : ∀ j, prod a (it crcTimes j 1#32) = it crcTimes j a
  | 0 => by have := prod_one a 0 (by omega); simpa [it] using this
  | j + 1 => by rw [it_succ, it_succ, prod_times, prod_pow a j]
theorem it_turn (x : W32) : ∀ n, turn (it crcTimes n x) = it crcStep n (turn x)
  | 0 => rfl
  | n + 1 => by
    rw [it_succ, it_succ, ← it_turn x n, times_turn, turn_turn]
theorem it_it {α : Type} (f : α → α) (k : Nat) : ∀ (n : Nat) (x : α), it (it f k) n x = it f (k * n) x
  | 0, _ => by simp [it]
  | n + 1, x => by rw [it, it_it f k n, Nat.mul_succ, Nat.add_comm (k * n), it_add]
theorem steps_it (c : W32) : ∀ k, crcSteps k c = it crcStep k c
  | 0 => rfl
  | k + 1 => by rw [it_succ, ← steps_it c k]; rfl
theorem step_lin : Lin crcStep := step_xor
/-- The two answers. -/
def joinW (a b : W32) (n : Nat) : W32 := it crcStep (8 * n) a ^^^ b
/-- The program's loop: k is left, f is the map at hand. -/
def Lp (f : W32 → W32) (k : Nat) (a : W32) : W32 := it f k a
theorem lp_odd {f : W32 → W32} {k : Nat} {a : W32} (h : k % 2 = 1) : it f k a = it (fun x => f (f x)) (k / 2) (f a) := by
  have e : (fun x => f (f x)) = it f 2 := by funext x; rfl
  rw [e, it_it]
  have hk : k = 1 + 2 * (k / 2) := by omega
  conv => lhs; rw [hk, it_add]
  rfl
theorem lp_even {f : W32 → W32} {k : Nat} {a : W32} (h : k % 2 = 0) : it f k a = it (fun x => f (f x)) (k / 2) a := by
  have e : (fun x => f (f x)) = it f 2 := by funext x; rfl
  rw [e, it_it]
  have hk : k = 2 * (k / 2) := by omega
  conv => lhs; rw [hk]
theorem lp_start (a : W32) (n : Nat) : it (crcSteps 8) n a = it crcStep (8 * n) a := by
  have e : crcSteps 8 = it crcStep 8 := by funext x; exact steps_it x 8
  rw [e, it_it]
/-- The reference's loop: the power at hand is T^e 1. -/
theorem rp_odd {x p : W32} {e k : Nat} (hp : p = it crcTimes e 1#32) (h : k % 2 = 1) : it crcTimes (e * k) x = it crcTimes (e * 2 * (k / 2)) (prod x p) ∧ prod p p = it crcTimes (e * 2) 1#32 := by
  subst hp
  rw [prod_pow, prod_pow]
  constructor
  · rw [← it_add]; congr 1
    have hk : k = 1 + 2 * (k / 2) := by omega
    conv => lhs; rw [hk]
    rw [Nat.mul_add, Nat.mul_one, Nat.mul_assoc]
  · rw [← it_add]; congr 1; omega
theorem rp_even {x p : W32} {e k : Nat} (hp : p = it crcTimes e 1#32) (h : k % 2 = 0) : it crcTimes (e * k) x = it crcTimes (e * 2 * (k / 2)) x ∧ prod p p = it crcTimes (e * 2) 1#32 := by
  subst hp
  rw [prod_pow]
  constructor
  · congr 1
    have hk : k = 2 * (k / 2) := by omega
    conv => lhs; rw [hk]
    rw [Nat.mul_assoc]
  · rw [← it_add]; congr 1; omega
theorem rp_start : (256#32 : W32) = it crcTimes 8 1#32 := by decide +kernel
theorem rp_end (a : W32) (n : Nat) : turn (it crcTimes (8 * n) (turn a)) = it crcStep (8 * n) a := by rw [it_turn, turn_turn]
end Go.Proofs.Ytepibmfpmnkhiaa
