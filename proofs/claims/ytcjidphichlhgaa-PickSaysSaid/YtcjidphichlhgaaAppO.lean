/- append onto a slice of the call's own, the source nil, empty or not: a law of our own. -/
import Derived.Test.YtcjidphichlhgaaTwo
namespace Go.Proofs.Ytcjidphichlhgaa
open Go.RowKit

/-- The source of an append: nil only if it is empty; else its cells are there. -/
def Src (w : World) (A : Option Addr) (m : Nat) (news : List Value) : Prop := (A = none → m = 0) ∧ ∀ ad, A = some ad → ∀ j u, news[j]? = some u → w.cell? (ad.add j) = some u

theorem src_rows {α : Type} {enc : α → List Value} {k : Nat} (hk : ∀ x, (enc x).length = k) (hk0 : 0 < k) {w : World} {B n c : Nat} {A : Option Addr} {xs : List α} (r : RowsIn w B A n c enc k xs) : Src w A n (xs.flatMap enc) := by
  have hl := r.len
  refine ⟨fun e => ?_, fun ad e j u hu => ?_⟩
  · subst e
    by_cases h0 : 0 < n
    · obtain ⟨b, o, e, _⟩ := r.at_ 0 xs[0] (List.getElem?_eq_getElem (by omega))
      cases e
    · omega
  · subst e
    have hj : j < xs.length * k := by have := (List.getElem?_eq_some_iff.1 hu).1; rwa [flat_len hk] at this
    have hi : j / k < xs.length := Nat.div_lt_of_lt_mul (by rwa [Nat.mul_comm] at hj)
    obtain ⟨b, o, e, _, hc⟩ := r.at_ (j / k) xs[j / k] (List.getElem?_eq_getElem hi)
    injection e with e
    subst e
    have hjm : j % k < k := Nat.mod_lt _ hk0
    have hu2 : (enc xs[j / k])[j % k]? = some u := by
      have e1 : (enc xs[j / k])[j % k]? = some ((enc xs[j / k])[j % k]'(by rw [hk]; exact hjm)) := List.getElem?_eq_getElem _
      have := flat_at hk xs (j / k) _ (List.getElem?_eq_getElem hi) (j % k) _ e1
      have e2 : j / k * k + j % k = j := Nat.div_add_mod' j k
      rw [e2, hu] at this
      rw [e1, ← this]
    have := hc (j % k) u hu2
    have e2 : o + j / k * k + j % k = o + j := by have := Nat.div_add_mod' j k; omega
    rw [e2] at this
    rw [add_form]; exact this

section
variable {P : Program} {w : World}
theorem run_appO {t ty e : TypeId} {z : Value} {size bytes : Nat} (ht : P.underlying t = some (.slice e)) (hinfo : (P.info? e).map (fun i => (i.zero, i.size, i.bytes)) = some (some z, size, bytes)) (hzs : z.cells.size = size) (hsz : 0 < size)
    {base : Nat} {v : Value} {n : Nat} {xs : List Value} (hown : Owns w base size v n xs) (hbase : base ≤ w.heap.size)
    (A2 : Option Addr) (m c : Nat) (news : List Value) (hl : news.length = m * size) (hsrc : Src w A2 m news) (h1 : ∀ u ∈ news, u.oneCell' = true)
    (h63 : n + m ≤ maxLen) (hbytes : (n + m) * bytes ≤ 140737488355328) :
    ∃ v' w', (Builtin.append_ #[t, t] ty #[v, .slice A2 m c]).run P w = .ok v' w' ∧ Owns w' base size v' (n + m) (xs ++ news) ∧ Left w w' base v.ownBlock ∧
      (v'.ownBlock = v.ownBlock ∨ ∀ k, v'.ownBlock = some k → w.heap.size ≤ k) := by
  rcases A2 with _ | ad
  · obtain rfl := hsrc.1 rfl
    have hn : news = [] := List.eq_nil_of_length_eq_zero (by simpa using hl)
    subst hn
    obtain ⟨i, hi, hz0, hz1, hz2⟩ := info_parts hinfo
    refine ⟨v, w, ?_, by simpa using hown, ⟨World.grownBy.refl w _, hbase, fun k hk => (hown.lt k hk).1⟩, .inl rfl⟩
    rcases hown.2 with ⟨rfl, rfl⟩ | ⟨g, off, cap, rfl, _, _, hnc, _⟩
    · simp [Builtin.append_, run_underlying ht, sizeOf, typeInfo, hi, Builtin.lenOf, Builtin.firstCells]
    · simp [Builtin.append_, run_underlying ht, sizeOf, typeInfo, hi, Builtin.lenOf, Builtin.firstCells, hnc, storeCells]
  · exact run_app ht hinfo hzs hsz hown hbase ad m c news hl (hsrc.2 ad rfl) h1 h63 hbytes
theorem wpList_appO {ops : Array Oper} {rest : List Oper} {o : Oper} {a : Act} {Q : Exit → Act → World → Prop} (hgd : o.guard = none) (s x : Operand) (t : TypeId) (ho : o.op = .call { callee := .builtin .append, args := #[s, x], argTypes := #[t, t] })
    {e : TypeId} {z : Value} {size bytes : Nat} (ht : P.underlying t = some (.slice e)) (hinfo : (P.info? e).map (fun i => (i.zero, i.size, i.bytes)) = some (some z, size, bytes)) (hzs : z.cells.size = size) (hsz : 0 < size)
    {base : Nat} {v : Value} {n : Nat} {xs : List Value} (hown : Owns w base size v n xs) (hs : a.eval s = v) (hbase : base ≤ w.heap.size)
    (A2 : Option Addr) (m c : Nat) (hx : a.eval x = .slice A2 m c) (news : List Value) (hl : news.length = m * size) (hsrc : Src w A2 m news) (h1 : ∀ u ∈ news, u.oneCell' = true)
    (h63 : n + m ≤ maxLen) (hbytes : (n + m) * bytes ≤ 140737488355328)
    (h : ∀ A' c' w', Owns w' base size (.slice A' (n + m) c') (n + m) (xs ++ news) → Left w w' base v.ownBlock → (Value.ownBlock (.slice A' (n + m) c') = v.ownBlock ∨ ∀ k, Value.ownBlock (.slice A' (n + m) c') = some k → w.heap.size ≤ k) → wpList P ops Q rest (a.put o.dst (.slice A' (n + m) c')) w') :
    wpList P ops Q (o :: rest) a w := by
  refine wpList_plain hgd fun K hK => ?_
  obtain ⟨v', w', hrun, h2, h3, h4⟩ := run_appO (P := P) (ty := o.type) ht hinfo hzs hsz hown hbase A2 m c news hl hsrc h1 h63 hbytes
  unfold Oper.wp execOp
  simp only [ho, resolve, invoke, builtin, Sem.run_bind, Sem.run_pure, Result.andThen_ok, List.map_toArray, List.map_cons, List.map_nil, hs, hx, hrun]
  obtain ⟨A', c', rfl⟩ := h2.form
  exact hK _ _ (h A' c' w' h2 h3 h4)
theorem step_appO {ops : Array Oper} {o : Oper} {a : Act} {K : Act → World → Prop} {Q : Exit → Act → World → Prop} {E : Prop} (hgd : o.guard = none) (s x : Operand) (t : TypeId) (ho : o.op = .call { callee := .builtin .append, args := #[s, x], argTypes := #[t, t] })
    {e : TypeId} {z : Value} {size bytes : Nat} (ht : P.underlying t = some (.slice e)) (hinfo : (P.info? e).map (fun i => (i.zero, i.size, i.bytes)) = some (some z, size, bytes)) (hzs : z.cells.size = size) (hsz : 0 < size)
    {base : Nat} (A : Option Addr) (n c0 : Nat) (xs : List Value) (hs : a.eval s = .slice A n c0) (hown : Owns w base size (.slice A n c0) n xs) (hbase : base ≤ w.heap.size)
    (A2 : Option Addr) (m c : Nat) (news : List Value) (hx : a.eval x = .slice A2 m c) (hl : news.length = m * size) (hsrc : Src w A2 m news) (h1 : ∀ u ∈ news, u.oneCell' = true)
    (h63 : n + m ≤ maxLen) (hbytes : (n + m) * bytes ≤ 140737488355328)
    (h : ∀ A' c' w', Owns w' base size (.slice A' (n + m) c') (n + m) (xs ++ news) → Left w w' base (Value.ownBlock (.slice A n c0)) → (Value.ownBlock (.slice A' (n + m) c') = Value.ownBlock (.slice A n c0) ∨ ∀ k, Value.ownBlock (.slice A' (n + m) c') = some k → w.heap.size ≤ k) → K (a.put o.dst (.slice A' (n + m) c')) w') :
    if Region.wanted o (yielded ops a.tmps) = true then Oper.wp P o a w K Q else E := by
  have hw : Region.wanted o (yielded ops a.tmps) = true := by simp [Region.wanted, hgd]
  rw [if_pos hw]
  obtain ⟨v', w', hrun, h2, h3, h4⟩ := run_appO (P := P) (ty := o.type) ht hinfo hzs hsz hown hbase A2 m c news hl hsrc h1 h63 hbytes
  unfold Oper.wp execOp
  simp only [ho, resolve, invoke, builtin, Sem.run_bind, Sem.run_pure, Result.andThen_ok, List.map_toArray, List.map_cons, List.map_nil, hs, hx, hrun]
  obtain ⟨A', c', rfl⟩ := h2.form
  exact h A' c' w' h2 h3 h4
end
end Go.Proofs.Ytcjidphichlhgaa
