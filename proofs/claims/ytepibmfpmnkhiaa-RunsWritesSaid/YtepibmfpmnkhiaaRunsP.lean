/- Run lengths: what a list of lengths is written as, element by element: plain lists. -/
import Derived.Test.YtepibmfpmnkhiaaFillP
import Derived.Test.YtepibmfpmnkhiaaPutP
namespace Go.Proofs.Ytepibmfpmnkhiaa
open Go.RowKit

/-- What has been written, how long the last run is, and of what. -/
structure Runs where
  out : List Int
  many : Nat
  last : Int
def Runs.step (r : Runs) (x : Int) : Runs :=
  if 0 < r.many ∧ r.many < 16 ∧ r.last = x then ⟨r.out.dropLast ++ [r.out.getLastD 0 + 1], r.many + 1, x⟩ else ⟨r.out ++ [16 * x], 1, x⟩
def runsOf (l : List Int) : Runs := l.foldl Runs.step ⟨[], 0, 0⟩
theorem runsOf_nil : runsOf [] = ⟨[], 0, 0⟩ := rfl
theorem runsOf_take (l : List Int) (k : Nat) (x : Int) (h : l[k]? = some x) : runsOf (l.take (k + 1)) = (runsOf (l.take k)).step x := by
  rw [List.take_add_one, h]; simp [runsOf, List.foldl_append]
theorem step_new (r : Runs) (x : Int) (h : ¬ (0 < r.many ∧ r.many < 16 ∧ r.last = x)) : r.step x = ⟨r.out ++ [16 * x], 1, x⟩ := by
  unfold Runs.step; rw [if_neg h]
theorem step_same (O : List Int) (n : Nat) (x b : Int) (h0 : 0 < n) (h1 : n < 16) : Runs.step ⟨O ++ [b], n, x⟩ x = ⟨O ++ [b + 1], n + 1, x⟩ := by
  unfold Runs.step; rw [if_pos ⟨h0, h1, rfl⟩]; simp
/-- No more bytes than lengths; a run has at most sixteen; the last byte tells the run. -/
def Runs.Ok (r : Runs) (k : Nat) : Prop :=
  r.out.length ≤ k ∧ r.many ≤ 16 ∧ (0 < k → 0 < r.many) ∧ (0 < r.many → 0 ≤ r.last ∧ r.last ≤ 15 ∧ ∃ O, r.out = O ++ [16 * r.last + ((r.many : Int) - 1)])
theorem runsOf_ok : Runs.Ok (runsOf []) 0 := ⟨Nat.zero_le _, Nat.zero_le _, fun h => by omega, fun h => by simp [runsOf] at h⟩
theorem step_ok {r : Runs} {k : Nat} (h : r.Ok k) {x : Int} (h0 : 0 ≤ x) (h1 : x ≤ 15) : (r.step x).Ok (k + 1) := by
  obtain ⟨a1, a2, a3, a4⟩ := h
  by_cases c : 0 < r.many ∧ r.many < 16 ∧ r.last = x
  · obtain ⟨b0, b1, O, hO⟩ := a4 c.1
    unfold Runs.step
    rw [if_pos c, hO]
    refine ⟨?_, by simp; omega, fun _ => by simp, fun _ => ⟨h0, h1, O, ?_⟩⟩
    · rw [hO] at a1; simp at a1 ⊢; omega
    · simp [c.2.2]; omega
  · unfold Runs.step
    rw [if_neg c]
    exact ⟨by simp; omega, by simp, fun _ => by simp, fun _ => ⟨h0, h1, r.out, by simp⟩⟩
def runsE (l : List Int) : Int := if 320 < l.length then 2 else if l.all okLen then 0 else 1
def runsS (l : List Int) : List Int := if 320 < l.length then [] else if l.all okLen then putL l.length ++ (runsOf l).out else []
theorem runs_large {l : List Int} (h : 320 < l.length) : runsS l = [] ∧ runsE l = 2 := by simp [runsS, runsE, h]
theorem runs_ok {l : List Int} (h : l.length ≤ 320) (ha : ∀ x ∈ l, 0 ≤ x ∧ x ≤ 15) : runsS l = putL l.length ++ (runsOf l).out ∧ runsE l = 0 := by
  have : l.all okLen = true := by rw [List.all_eq_true]; intro x hx; exact (okLen_iff x).2 (ha x hx)
  simp only [runsS, runsE, this, if_neg (show ¬ 320 < l.length by omega), if_pos, and_self]
theorem runs_bad {l : List Int} (h : l.length ≤ 320) {j : Nat} {x : Int} (hj : l[j]? = some x) (hx : x < 0 ∨ 15 < x) : runsS l = [] ∧ runsE l = 1 := by
  have : l.all okLen = false := by
    rw [List.all_eq_false]
    exact ⟨x, List.mem_of_getElem? hj, by rw [okLen_iff]; omega⟩
  simp [runsS, runsE, this, if_neg (show ¬ 320 < l.length by omega)]
theorem putF_bytes : ∀ (f : Nat) (n : Int), 0 ≤ n → (f = 0 → n ≤ 255) → (n < 128 ^ (f + 1)) → ∀ b ∈ putF f n, 0 ≤ b ∧ b ≤ 255
  | 0, n, h0, h1, _, b, hb => by simp [putF] at hb; subst hb; exact ⟨h0, h1 rfl⟩
  | f + 1, n, h0, _, h2, b, hb => by
    simp only [putF] at hb
    split at hb
    · simp at hb; omega
    · rcases List.mem_cons.1 hb with rfl | hb
      · omega
      · rw [Int.pow_succ] at h2
        exact putF_bytes f (n / 128) (by omega) (fun e => by subst e; simp at h2; omega) (by omega) b hb
theorem putL_bytes (n : Int) (h0 : 0 ≤ n) (h1 : n ≤ 18446744073709551615) : ∀ b ∈ putL n, 0 ≤ b ∧ b ≤ 255 :=
  putF_bytes 9 n h0 (fun e => by omega) (Int.lt_of_le_of_lt h1 (by decide))
theorem putL_length (n : Int) : (putL n).length ≤ 10 := (putF_length 9 n).1
end Go.Proofs.Ytepibmfpmnkhiaa
