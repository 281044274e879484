/- Names joined to a path: plain. -/
import Derived.Test.YtfhgglghofhndaaDirP
import Derived.Lib.Join
namespace Go.Proofs.Ytfhgglghofhndaa
open Go.RowKit Go.PlainAid

open Classical in
noncomputable def jnE (l : List ByteArray) : Int := if ∀ n ∈ l, nameE n = 0 then (if 8 < l.length then 2 else 0) else 11
def sepB (l : List ByteArray) : List UInt8 := l.flatMap (fun n => 47 :: bl n)
noncomputable def jnT (l : List ByteArray) : ByteArray := if jnE l = 0 then (if l.length = 0 then mkS [47] else mkS (sepB l)) else mkS []
theorem jn_bad {l : List ByteArray} {i : Nat} {x : ByteArray} (h : l[i]? = some x) (hx : nameE x ≠ 0) : jnE l = 11 ∧ jnT l = mkS [] := by
  have e : jnE l = 11 := if_neg fun hall => hx (hall x (List.mem_of_getElem? h))
  exact ⟨e, by unfold jnT; rw [if_neg (by rw [e]; decide)]⟩
theorem jn_large {l : List ByteArray} (h : ∀ n ∈ l, nameE n = 0) (hl : 8 < l.length) : jnE l = 2 ∧ jnT l = mkS [] := by
  have e : jnE l = 2 := by unfold jnE; rw [if_pos h, if_pos hl]
  exact ⟨e, by unfold jnT; rw [if_neg (by rw [e]; decide)]⟩
theorem jn_none {l : List ByteArray} (h : l.length = 0) : jnE l = 0 ∧ jnT l = mkS [47] := by
  obtain rfl := List.eq_nil_of_length_eq_zero h
  have e : jnE ([] : List ByteArray) = 0 := by unfold jnE; rw [if_pos (by simp), if_neg (by simp)]
  exact ⟨e, by unfold jnT; rw [if_pos e]; rfl⟩
theorem jn_ok {l : List ByteArray} (h : ∀ n ∈ l, nameE n = 0) (hl : ¬ 8 < l.length) (h0 : l.length ≠ 0) : jnE l = 0 ∧ jnT l = mkS (sepB l) := by
  have e : jnE l = 0 := by unfold jnE; rw [if_pos h, if_neg hl]
  exact ⟨e, by unfold jnT; rw [if_pos e, if_neg h0]⟩
theorem sepB_step {l : List ByteArray} {i : Nat} {x : ByteArray} (h : l[i]? = some x) : sepB (l.take (i + 1)) = sepB (l.take i) ++ (47 :: bl x) := by
  obtain ⟨hi, rfl⟩ := List.getElem?_eq_some_iff.1 h
  unfold sepB
  rw [List.take_succ_eq_append_getElem hi, List.flatMap_append]
  simp only [List.flatMap_cons, List.flatMap_nil, List.append_nil]
theorem sepB_len : ∀ (l : List ByteArray), (∀ n ∈ l, n.size ≤ 12) → (sepB l).length ≤ 13 * l.length
  | [], _ => by simp [sepB]
  | x :: r, h => by
    have ih := sepB_len r (fun y hy => h y (List.mem_cons_of_mem _ hy))
    have := h x (List.mem_cons_self ..)
    unfold sepB at *
    rw [List.flatMap_cons, List.length_append, List.length_cons, bl_len, List.length_cons]
    omega
theorem sepB_join {l : List ByteArray} (h : l.length ≠ 0) : 47 :: Lib.join (l.map (·.data.toList)) [47] = sepB l := by
  cases l with
  | nil => simp at h
  | cons x r =>
    rw [List.map_cons, Lib.join_cons]
    unfold sepB Lib.joinTail
    rw [List.flatMap_cons]
    simp only [List.cons_append, List.cons.injEq, true_and]
    congr 1
    simp only [List.map_map, List.flatMap_def]
    rfl
theorem sepB_ne {l : List ByteArray} (h : l.length ≠ 0) : (sepB l).length ≠ 0 := by
  cases l with
  | nil => simp at h
  | cons x r => unfold sepB; simp
/-- Is l the beginning of m? -/
def undB (l m : List ByteArray) : Bool := decide (l.length ≤ m.length) && decide (m.take l.length = l)
end Go.Proofs.Ytfhgglghofhndaa
