/- append at a step of a region that draws its order, for a slice of the call's own; what such a slice holds, said as elements. -/
import Derived.Test.YtgidfmdbaimcnaaDoorMem
import Derived.Deep.RegionLaw
import Derived.Deep.RegionHeld3
namespace Go.Proofs.YtgidfmdbaimcnaaDoor
open Go.RowKit

theorem flat_len {α : Type} {enc : α → List Value} {k : Nat} (hk : ∀ x, (enc x).length = k) : ∀ xs : List α, (xs.flatMap enc).length = xs.length * k
  | [] => by simp
  | x :: r => by rw [List.flatMap_cons, List.length_append, hk x, flat_len hk r, List.length_cons, Nat.add_mul, Nat.one_mul, Nat.add_comm]
theorem flat_at {α : Type} {enc : α → List Value} {k : Nat} (hk : ∀ x, (enc x).length = k) : ∀ (xs : List α) (i : Nat) (x : α), xs[i]? = some x → ∀ (j : Nat) (u : Value), (enc x)[j]? = some u → (xs.flatMap enc)[i * k + j]? = some u
  | [], i, x, h, j, u, hu => by simp at h
  | y :: r, 0, x, h, j, u, hu => by
    obtain rfl : y = x := by simpa using h
    have hj : j < (enc y).length := (List.getElem?_eq_some_iff.1 hu).1
    rw [List.flatMap_cons, Nat.zero_mul, Nat.zero_add, List.getElem?_append_left hj]
    exact hu
  | y :: r, i + 1, x, h, j, u, hu => by
    have h' : r[i]? = some x := by simpa using h
    have hyl := hk y
    rw [List.flatMap_cons, List.getElem?_append_right (by rw [hk y, Nat.add_mul, Nat.one_mul]; omega), hk y]
    rw [show (i + 1) * k + j - k = i * k + j by rw [Nat.add_mul, Nat.one_mul]; omega]
    exact flat_at hk r i x h' j u hu
/-- What the call owns, said as a row of elements. -/
theorem Owns.rows {α : Type} {enc : α → List Value} {k : Nat} (hk : ∀ x, (enc x).length = k) (hk0 : 0 < k) {w : World} {base n c : Nat} {A : Option Addr} {xs : List α} (h : Owns w base k (.slice A n c) n (xs.flatMap enc)) : RowsIn w w.heap.size A n c enc k xs := by
  have hl : xs.length = n := by
    have := h.1; rw [flat_len hk] at this
    exact Nat.eq_of_mul_eq_mul_right hk0 this
  rcases h.2 with ⟨e, h0⟩ | ⟨g, off, cap, e, h1, h2, h3, h4, h5, h6⟩
  · injection e with e1 e2 e3
    subst e1; subst e2; subst e3
    refine ⟨hl, Nat.le_refl _, Nat.zero_le _, fun i x hx => ?_⟩
    have : xs = [] := List.eq_nil_of_length_eq_zero hl
    subst this; simp at hx
  · injection e with e1 e2 e3
    subst e1; subst e3
    exact ⟨hl, h3, h4, fun i x hx => ⟨g, off, rfl, h2, fun j u hu => by rw [Nat.add_assoc]; exact h5 _ u (flat_at hk xs i x hx j u hu)⟩⟩

section
variable {P : Program} {w : World} {ops : Array Oper} {o : Oper} {a : Act} {K : Act → World → Prop} {Q : Exit → Act → World → Prop} {E : Prop}
/-- 'out = append(out, x)' of one element, laid in block B, at a step of a region that draws. -/
theorem step_app1 (hgd : o.guard = none) (s x : Operand) (t : TypeId) (ho : o.op = .call { callee := .builtin .append, args := #[s, x], argTypes := #[t, t] })
    {e : TypeId} {z : Value} {size bytes : Nat} (ht : P.underlying t = some (.slice e)) (hinfo : (P.info? e).map (fun i => (i.zero, i.size, i.bytes)) = some (some z, size, bytes)) (hzs : z.cells.size = size) (hsz : 0 < size)
    {base : Nat} (A : Option Addr) (n c0 : Nat) (xs : List Value) (hs : a.eval s = .slice A n c0) (hown : Owns w base size (.slice A n c0) n xs) (hbase : base ≤ w.heap.size)
    (B c : Nat) (news : Array Value) (e' : TypeId) (hx : a.eval x = .slice (some ⟨B, 0, none⟩) 1 c) (hB : w.heap[B]? = some (.cells news e')) (hl : news.size = size) (h1 : ∀ u ∈ news.toList, u.oneCell' = true)
    (h63 : n + 1 ≤ maxLen) (hbytes : (n + 1) * bytes ≤ 140737488355328)
    (h : ∀ A' c' w', Owns w' base size (.slice A' (n + 1) c') (n + 1) (xs ++ news.toList) → Left w w' base (Value.ownBlock (.slice A n c0)) → (Value.ownBlock (.slice A' (n + 1) c') = Value.ownBlock (.slice A n c0) ∨ ∀ k, Value.ownBlock (.slice A' (n + 1) c') = some k → w.heap.size ≤ k) → K (a.put o.dst (.slice A' (n + 1) c')) w') :
    if Region.wanted o (yielded ops a.tmps) = true then Oper.wp P o a w K Q else E := by
  have hw : Region.wanted o (yielded ops a.tmps) = true := by simp [Region.wanted, hgd]
  rw [if_pos hw]
  obtain ⟨v', w', hrun, h2, h3, h4⟩ := run_app (P := P) (ty := o.type) ht hinfo hzs hsz hown hbase ⟨B, 0, none⟩ 1 c news.toList (by simpa using hl) (fun j u hu => by
    rw [add_form, Nat.zero_add, cell_of_row w B j news e' _ hB]
    simpa using hu) h1 h63 hbytes
  unfold Oper.wp execOp
  simp only [ho, resolve, invoke, builtin, Sem.run_bind, Sem.run_pure, Result.andThen_ok, List.map_toArray, List.map_cons, List.map_nil, hs, hx, hrun]
  obtain ⟨A', c', rfl⟩ := h2.form
  exact h A' c' w' h2 h3 h4
end
end Go.Proofs.YtgidfmdbaimcnaaDoor
