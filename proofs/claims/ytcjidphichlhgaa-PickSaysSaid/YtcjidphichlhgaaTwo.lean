/- Two slices of the call's own beside each other; an append of several elements at a step of a region that draws. -/
import Derived.Test.YtcjidphichlhgaaApp
namespace Go.Proofs.Ytcjidphichlhgaa
open Go.RowKit

/-- The two lie in blocks of their own. -/
def Apart (v v' : Value) : Prop := ∀ g, v.ownBlock = some g → v'.ownBlock ≠ some g
theorem Apart.nil (v : Value) (n c : Nat) : Apart (.slice none n c) v := fun g h => by cases h
theorem Apart.symm {v v' : Value} (h : Apart v v') : Apart v' v := fun g e e' => h g e' e
theorem Apart.grow {v v' v2 : Value} {N : Nat} (h : Apart v v') (hg : v2.ownBlock = v.ownBlock ∨ ∀ k, v2.ownBlock = some k → N ≤ k) (hl : ∀ g, v'.ownBlock = some g → g < N) : Apart v2 v' := fun g e e' => by
  rcases hg with hg | hg
  · exact h g (hg ▸ e) e'
  · have := hg g e; have := hl g e'; omega
theorem Apart.other {v v' : Value} (h : Apart v v') : v'.ownBlock = none ∨ v'.ownBlock ≠ v.ownBlock := by
  cases e : v'.ownBlock with
  | none => exact .inl rfl
  | some g => exact .inr fun e' => h g e'.symm e
theorem Owns.apart {w w' : World} {base base' size n : Nat} {v v' : Value} {xs : List Value} (h : Owns w base size v' n xs) (hl : Left w w' base' v.ownBlock) (ha : Apart v v') : Owns w' base size v' n xs := h.left hl ha.other
theorem rows_some {α : Type} {enc : α → List Value} {k n c B : Nat} {A : Option Addr} {xs : List α} {w : World} (h : RowsIn w B A n c enc k xs) (h0 : 0 < n) : ∃ b o, A = some ⟨b, o, none⟩ ∧ b < B := by
  have hl := h.len
  obtain ⟨b, o, e, hb, _⟩ := h.at_ 0 _ (List.getElem?_eq_getElem (by omega))
  exact ⟨b, o, e, hb⟩
theorem rows_cells {α : Type} {f : α → Value} {n c B b o : Nat} {xs : List α} {w : World} (h : RowsIn w B (some ⟨b, o, none⟩) n c (fun x => [f x]) 1 xs) : ∀ (j : Nat) (u : Value), (xs.map f)[j]? = some u → w.cell? (Addr.add ⟨b, o, none⟩ j) = some u := fun j u hu => by
  rw [List.getElem?_map] at hu
  obtain ⟨x, hx, rfl⟩ := Option.map_eq_some_iff.1 hu
  obtain ⟨b', o', e, _, hc⟩ := h.one hx
  injection e with e
  injection e with e1 e2 _
  subst e1; subst e2
  rw [add_form]; exact hc

section
variable {P : Program} {w : World} {ops : Array Oper} {o : Oper} {a : Act} {K : Act → World → Prop} {Q : Exit → Act → World → Prop} {E : Prop}
/-- 'out = append(out, xs...)' at a step of a region that draws. -/
theorem step_appN (hgd : o.guard = none) (s x : Operand) (t : TypeId) (ho : o.op = .call { callee := .builtin .append, args := #[s, x], argTypes := #[t, t] })
    {e : TypeId} {z : Value} {size bytes : Nat} (ht : P.underlying t = some (.slice e)) (hinfo : (P.info? e).map (fun i => (i.zero, i.size, i.bytes)) = some (some z, size, bytes)) (hzs : z.cells.size = size) (hsz : 0 < size)
    {base : Nat} (A : Option Addr) (n c0 : Nat) (xs : List Value) (hs : a.eval s = .slice A n c0) (hown : Owns w base size (.slice A n c0) n xs) (hbase : base ≤ w.heap.size)
    (ad : Addr) (m c : Nat) (news : List Value) (hx : a.eval x = .slice (some ad) m c) (hl : news.length = m * size) (hnews : ∀ j u, news[j]? = some u → w.cell? (ad.add j) = some u) (h1 : ∀ u ∈ news, u.oneCell' = true)
    (h63 : n + m ≤ maxLen) (hbytes : (n + m) * bytes ≤ 140737488355328)
    (h : ∀ A' c' w', Owns w' base size (.slice A' (n + m) c') (n + m) (xs ++ news) → Left w w' base (Value.ownBlock (.slice A n c0)) → (Value.ownBlock (.slice A' (n + m) c') = Value.ownBlock (.slice A n c0) ∨ ∀ k, Value.ownBlock (.slice A' (n + m) c') = some k → w.heap.size ≤ k) → K (a.put o.dst (.slice A' (n + m) c')) w') :
    if Region.wanted o (yielded ops a.tmps) = true then Oper.wp P o a w K Q else E := by
  have hw : Region.wanted o (yielded ops a.tmps) = true := by simp [Region.wanted, hgd]
  rw [if_pos hw]
  obtain ⟨v', w', hrun, h2, h3, h4⟩ := run_app (P := P) (ty := o.type) ht hinfo hzs hsz hown hbase ad m c news hl hnews h1 h63 hbytes
  unfold Oper.wp execOp
  simp only [ho, resolve, invoke, builtin, Sem.run_bind, Sem.run_pure, Result.andThen_ok, List.map_toArray, List.map_cons, List.map_nil, hs, hx, hrun]
  obtain ⟨A', c', rfl⟩ := h2.form
  exact h A' c' w' h2 h3 h4
end
end Go.Proofs.Ytcjidphichlhgaa
