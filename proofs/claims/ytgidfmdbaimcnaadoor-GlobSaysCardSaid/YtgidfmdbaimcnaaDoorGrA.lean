/- append of all the elements of a row, nil or not, to a slice of the call's own: a law over any program. -/
import Derived.Test.YtgidfmdbaimcnaaDoorGbM
namespace Go.Proofs.YtgidfmdbaimcnaaDoor
open Go.RowKit

theorem flat_inv {α : Type} {enc : α → List Value} {k : Nat} (hk : ∀ x, (enc x).length = k) (hk0 : 0 < k) (ys : List α) (j : Nat) (u : Value) (h : (ys.flatMap enc)[j]? = some u) : ∃ x, ys[j / k]? = some x ∧ (enc x)[j % k]? = some u := by
  have hj := (List.getElem?_eq_some_iff.1 h).1
  rw [flat_len hk] at hj
  have hi : j / k < ys.length := Nat.div_lt_of_lt_mul (by rw [Nat.mul_comm]; exact hj)
  have hx : ys[j / k]? = some ys[j / k] := List.getElem?_eq_getElem hi
  have hm : j % k < (enc ys[j / k]).length := by rw [hk]; exact Nat.mod_lt _ hk0
  have hu := List.getElem?_eq_getElem hm
  have := flat_at hk ys (j / k) _ hx (j % k) _ hu
  rw [Nat.mul_comm, Nat.div_add_mod, h] at this
  exact ⟨_, hx, by rw [hu, ← this]⟩
section
variable {P : Program} {w : World} {ops : Array Oper} {rest : List Oper} {o : Oper} {a : Act} {Q : Exit → Act → World → Prop}
theorem run_app_none {t ty e : TypeId} {z : Value} {size bytes : Nat} (ht : P.underlying t = some (.slice e)) (hinfo : (P.info? e).map (fun i => (i.zero, i.size, i.bytes)) = some (some z, size, bytes)) (A : Option Addr) (n c0 c : Nat) (hnc : n ≤ c0) :
    (Builtin.append_ #[t, t] ty #[.slice A n c0, .slice none 0 c]).run P w = .ok (.slice A n c0) w := by
  obtain ⟨i, hi, hz0, hz1, hz2⟩ := info_parts hinfo
  cases A with
  | none =>
    have : ¬ c0 < n := by omega
    simp [Builtin.append_, run_underlying ht, sizeOf, typeInfo, hi, Builtin.lenOf, Builtin.firstCells, this]
  | some a => simp [Builtin.append_, run_underlying ht, sizeOf, typeInfo, hi, Builtin.lenOf, Builtin.firstCells, hnc, storeCells]
/-- 'append(out, l...)' where l reads as the elements ys. -/
theorem wpList_appRow {α : Type} {enc : α → List Value} (hgd : o.guard = none) {s x : Operand} {t : TypeId} (ho : o.op = .call { callee := .builtin .append, args := #[s, x], argTypes := #[t, t] })
    {e : TypeId} {z : Value} {size bytes : Nat} (ht : P.underlying t = some (.slice e)) (hinfo : (P.info? e).map (fun i => (i.zero, i.size, i.bytes)) = some (some z, size, bytes)) (hzs : z.cells.size = size) (hsz : 0 < size)
    {base : Nat} {A : Option Addr} {n c0 : Nat} {xs : List Value} (hown : Owns w base size (.slice A n c0) n xs) (hs : a.eval s = .slice A n c0) (hbase : base ≤ w.heap.size)
    {D : Option Addr} {m c B : Nat} (hx : a.eval x = .slice D m c) {ys : List α} (hr : RowsIn w B D m c enc size ys) (hlen : ∀ y, (enc y).length = size) (h1 : ∀ y, ∀ u ∈ enc y, u.oneCell' = true)
    (h63 : n + m ≤ maxLen) (hbytes : (n + m) * bytes ≤ 140737488355328)
    (h : ∀ A' c' w', Owns w' base size (.slice A' (n + m) c') (n + m) (xs ++ ys.flatMap enc) → Left w w' base (Value.ownBlock (.slice A n c0)) → (Value.ownBlock (.slice A' (n + m) c') = Value.ownBlock (.slice A n c0) ∨ ∀ k, Value.ownBlock (.slice A' (n + m) c') = some k → w.heap.size ≤ k) → wpList P ops Q rest (a.put o.dst (.slice A' (n + m) c')) w') :
    wpList P ops Q (o :: rest) a w := by
  cases D with
  | none =>
    have hm : ys = [] := by
      cases ys with
      | nil => rfl
      | cons y ys => obtain ⟨_, _, e, _⟩ := hr.at_ 0 y rfl; cases e
    subst hm
    obtain rfl : 0 = m := hr.len
    refine wpList_plain hgd fun K hK => ?_
    have hnc : n ≤ c0 := by
      rcases hown.2 with ⟨e, _⟩ | ⟨_, _, _, e, _, _, h3, _⟩
      · injection e with _ e2 e3; omega
      · injection e with _ _ e3; omega
    have hrun := run_app_none (P := P) (w := w) (ty := o.type) ht hinfo A n c0 c hnc
    unfold Oper.wp execOp
    simp only [ho, resolve, invoke, builtin, Sem.run_bind, Sem.run_pure, Result.andThen_ok, List.map_toArray, List.map_cons, List.map_nil, hs, hx, hrun]
    exact hK _ _ (h A c0 w (by simpa using hown) ⟨World.grownBy.refl w _, hbase, fun k hk => (hown.lt k hk).1⟩ (.inl rfl))
  | some ad =>
    refine wpList_appN hgd ho ht hinfo hzs hsz hown hs hbase hx (ys.flatMap enc) (by rw [flat_len hlen, hr.len]) (fun j u hu => ?_) (fun u hu => ?_) h63 hbytes fun A' c' w' h2 h3 h4 => h A' c' w' h2 h3 h4
    · obtain ⟨y, hy, hju⟩ := flat_inv hlen hsz ys j u hu
      obtain ⟨b, of, e, _, hc⟩ := hr.at_ _ y hy
      injection e with e
      subst e
      have := hc _ u hju
      rw [Nat.add_assoc, Nat.mul_comm, Nat.div_add_mod] at this
      rw [add_form]; exact this
    · obtain ⟨y, _, hy⟩ := List.mem_flatMap.1 hu
      exact h1 y u hy
/-- A slice of one element, just laid in a block of its own. -/
theorem Owns.fresh1 (w : World) (cs : List Value) (t : TypeId) {size : Nat} (hl : cs.length = size) : Owns (w.alloc (.cells cs.toArray t)) w.heap.size size (.slice (some ⟨w.heap.size, 0, none⟩) 1 1) 1 cs := by
  refine ⟨by rw [Nat.one_mul]; exact hl, .inr ⟨w.heap.size, 0, 1, rfl, Nat.le_refl _, by simp, Nat.le_refl _, by unfold maxLen; decide, fun j u hu => ?_, fun j hj => ?_⟩⟩
  · rw [Nat.zero_add, row_cell (heap_alloc_new w _) j]; simpa using hu
  · rw [Nat.zero_add, row_cell (heap_alloc_new w _) j]
    exact ⟨by simp; omega, row_cold (heap_alloc_new w _) j⟩
end
end Go.Proofs.YtgidfmdbaimcnaaDoor
