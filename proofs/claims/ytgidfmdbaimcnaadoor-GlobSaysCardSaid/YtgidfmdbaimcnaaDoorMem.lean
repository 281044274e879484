/- Slices of the call's own, said of their cells (a slice made by make, append, a conversion, or cut out of one): laws of our own at append, store, conversion, over any program. -/
import Derived.Test.YtgidfmdbaimcnaaDoorOwn
import Derived.ArgAppend
import Derived.Laws.IdiomStrings
import Derived.Laws.IdiomCopy
import Derived.Lib.LazyBuf
import Derived.PlainAid
namespace Go.Proofs.YtgidfmdbaimcnaaDoor
open Go.RowKit Go.PlainAid

/-- The slice value v, of n elements of 'size' cells each, holds the cells xs, in a block from 'base' on; all cells up to its capacity are there and may be written. -/
def Owns (w : World) (base size : Nat) (v : Value) (n : Nat) (xs : List Value) : Prop :=
  xs.length = n * size ∧ ((v = .slice none 0 0 ∧ n = 0) ∨ ∃ g off cap, v = .slice (some ⟨g, off, none⟩) n cap ∧ base ≤ g ∧ g < w.heap.size ∧ n ≤ cap ∧ cap ≤ maxLen ∧
    (∀ (j : Nat) (u : Value), xs[j]? = some u → w.cell? ⟨g, off + j, none⟩ = some u) ∧ ∀ j, j < cap * size → (w.cell? ⟨g, off + j, none⟩).isSome = true ∧ w.frozen? ⟨g, off + j, none⟩ = false)

section
variable {w w' : World} {base size n : Nat} {v : Value} {xs : List Value}
theorem Owns.nil (w : World) (base size : Nat) : Owns w base size (.slice none 0 0) 0 [] := ⟨by simp, .inl ⟨rfl, rfl⟩⟩
theorem Owns.form (h : Owns w base size v n xs) : ∃ A c, v = .slice A n c := by
  rcases h.2 with ⟨rfl, rfl⟩ | ⟨g, off, cap, rfl, _⟩
  · exact ⟨none, 0, rfl⟩
  · exact ⟨_, _, rfl⟩
theorem Owns.of_row {e : TypeId} (h : w.ownsRow base e size v n xs) : Owns w base size v n xs := by
  refine ⟨h.1, ?_⟩
  rcases h.2 with h0 | ⟨g, cap, cur, hv, hb, hh, hnc, hcm, hcs, ht⟩
  · exact .inl h0
  · have hg : g < w.heap.size := by
      rcases Nat.lt_or_ge g w.heap.size with hlt | hge
      · exact hlt
      · rw [Array.getElem?_eq_none hge] at hh; cases hh
    subst hv
    refine .inr ⟨g, 0, cap, rfl, hb, hg, hnc, hcm, fun j u hu => ?_, fun j hj => ⟨?_, ?_⟩⟩
    · have hj : j < n * size := by rw [← h.1]; exact (List.getElem?_eq_some_iff.1 hu).1
      rw [Nat.zero_add, h.cellAt j hj]; exact hu
    · rw [Nat.zero_add, cell_of_row w g j cur e (0, 0) hh]
      have : j < cur.size := by omega
      simp [this]
    · rw [Nat.zero_add]; exact h.frozenAt j
theorem Owns.kept (h : Owns w base size v n xs) (hb : ∀ g, v.ownBlock = some g → w'.heap[g]? = w.heap[g]?) (hs : w.heap.size ≤ w'.heap.size) : Owns w' base size v n xs := by
  refine ⟨h.1, ?_⟩
  rcases h.2 with h0 | ⟨g, off, cap, rfl, h1, h2, h3, h4, h5, h6⟩
  · exact .inl h0
  · have e := hb g rfl
    refine .inr ⟨g, off, cap, rfl, h1, by omega, h3, h4, fun j u hu => ?_, fun j hj => ?_⟩
    · rw [World.cell?_of_block (w := w) (a := ⟨g, off + j, none⟩) e]; exact h5 j u hu
    · rw [World.cell?_of_block (w := w) (a := ⟨g, off + j, none⟩) e, World.frozen?_of_block (w := w) (a := ⟨g, off + j, none⟩) e]; exact h6 j hj
theorem Owns.lt (h : Owns w base size v n xs) : ∀ g, v.ownBlock = some g → base ≤ g ∧ g < w.heap.size := by
  intro k hk
  rcases h.2 with ⟨rfl, _⟩ | ⟨g, off, cap, rfl, h1, h2, _⟩
  · simp [Value.ownBlock] at hk
  · have : g = k := by simpa [Value.ownBlock] using hk
    subst this; exact ⟨h1, h2⟩
theorem Owns.alloc (h : Owns w base size v n xs) (o : Obj) : Owns (w.alloc o) base size v n xs :=
  h.kept (fun g hg => Below.heap_alloc w o g (h.lt g hg).2) (by simp)
theorem Owns.drew (h : Owns w base size v n xs) : Owns w.drew base size v n xs := h
theorem Owns.drewN (h : Owns w base size v n xs) (m : Nat) : Owns (w.drewN m) base size v n xs := h
theorem Owns.left {base' : Nat} {row : Option Nat} (h : Owns w base size v n xs) (hl : Left w w' base' row) (hne : v.ownBlock = none ∨ v.ownBlock ≠ row) : Owns w' base size v n xs :=
  h.kept (fun g hg => hl.grown.block g (h.lt g hg).2 (by rcases hne with e | e; · rw [e] at hg; cases hg
                                                         · rw [← hg]; exact e)) hl.size
theorem Owns.below {B : Nat} (h : Owns w base size v n xs) (hb : Below B w w') (hB : ∀ g, v.ownBlock = some g → g < B) : Owns w' base size v n xs :=
  h.kept (fun g hg => hb.block g (hB g hg)) hb.size
theorem Owns.fresh_below (h : Owns w base size v n xs) (hb : Below w.heap.size w w') : Owns w' base size v n xs := h.below hb fun g hg => (h.lt g hg).2
theorem Owns.setOther (h : Owns w base size v n xs) {p : Addr} (hp : v.ownBlock ≠ some p.block) (u : Value) : Owns (w.setCell p u) base size v n xs :=
  h.kept (fun g hg => Below.heap_setCell w p u g (fun e => hp (by rw [hg, e]))) (by simp [World.setCell])
theorem Owns.more {base' : Nat} (h : Owns w base size v n xs) (hB : base' ≤ base) : Owns w base' size v n xs := by
  refine ⟨h.1, ?_⟩
  rcases h.2 with h0 | ⟨g, off, cap, rfl, h1, h2⟩
  · exact .inl h0
  · exact .inr ⟨g, off, cap, rfl, by omega, h2⟩
/-- An element's cell, for an index: the slice's address and what lies there. -/
theorem Owns.at_ (h : Owns w base size v n xs) {j : Nat} {u : Value} (hu : xs[j]? = some u) :
    ∃ g off cap, v = .slice (some ⟨g, off, none⟩) n cap ∧ base ≤ g ∧ g < w.heap.size ∧ w.cell? ⟨g, off + j, none⟩ = some u ∧ w.frozen? ⟨g, off + j, none⟩ = false := by
  rcases h.2 with ⟨rfl, h0⟩ | ⟨g, off, cap, rfl, h1, h2, h3, h4, h5, h6⟩
  · have := h.1; subst h0; simp at this; subst this; simp at hu
  · have hj : j < xs.length := (List.getElem?_eq_some_iff.1 hu).1
    have hlt : j < cap * size := Nat.lt_of_lt_of_le (by rw [h.1] at hj; exact hj) (Nat.mul_le_mul_right _ h3)
    exact ⟨g, off, cap, rfl, h1, h2, h5 j u hu, (h6 j hlt).2⟩
/-- A store into an element's cell. -/
theorem Owns.set {g off cap : Nat} (h : Owns w base size (.slice (some ⟨g, off, none⟩) n cap) n xs) (j : Nat) (u : Value) :
    Owns (w.setCell ⟨g, off + j, none⟩ u) base size (.slice (some ⟨g, off, none⟩) n cap) n (xs.set j u) := by
  refine ⟨by rw [List.length_set]; exact h.1, ?_⟩
  rcases h.2 with ⟨e, _⟩ | ⟨g', off', cap', e, h1, h2, h3, h4, h5, h6⟩
  · cases e
  · injection e with e1 e2 e3
    injection e1 with e1
    injection e1 with e1 e4
    subst e1; subst e4; subst e3
    refine .inr ⟨g, off, cap, rfl, h1, by simpa [World.setCell] using h2, h3, h4, fun k x hx => ?_, fun k hk => ?_⟩
    · by_cases hkj : k = j
      · subst hkj
        have hk : k < xs.length := by have := (List.getElem?_eq_some_iff.1 hx).1; simpa using this
        rw [List.getElem?_set_self hk] at hx
        obtain rfl : u = x := by simpa using hx
        have hc := h5 k _ (List.getElem?_eq_getElem hk)
        exact World.cell?_setCell_same' _ _ _ (by rw [hc]; rfl)
      · rw [List.getElem?_set_ne (fun e => hkj e.symm)] at hx
        rw [World.cell?_setCell_other w _ _ _ (fun e => hkj (by injection e with _ e _; omega))]
        exact h5 k x hx
    · obtain ⟨c1, c2⟩ := h6 k hk
      refine ⟨?_, ?_⟩
      · by_cases hkj : k = j
        · subst hkj
          rw [World.cell?_setCell_same' _ _ _ c1]; rfl
        · rw [World.cell?_setCell_other w _ _ _ (fun e => hkj (by injection e with _ e _; omega))]
          exact c1
      · rw [World.frozen?_setCell]; exact c2
/-- An address of its own in another block. -/
theorem Owns.ne_of_le (h : Owns w base size v n xs) {g : Nat} (hg : w.heap.size ≤ g) : v.ownBlock ≠ some g := fun e => by have := (h.lt g e).2; omega
end

section
variable {P : Program} {w : World} {ops : Array Oper} {rest : List Oper} {o : Oper} {a : Act} {Q : Exit → Act → World → Prop}

theorem grown_trans_row {a b c : World} {row : Option Nat} (h : a.grownBy b row) (k : b.grownBy c row) : a.grownBy c row :=
  ⟨k.os.trans h.os, k.tape.trans h.tape, k.output.trans h.output, Nat.le_trans h.size k.size, fun i hi hne => (k.block i (Nat.lt_of_lt_of_le hi h.size) hne).trans (h.block i hi hne)⟩
theorem grown_setCells (b : Nat) : ∀ (vs : List Value) (o : Nat) (w : World), w.grownBy (w.setCells b o vs) (some b)
  | [], _, w => World.grownBy.refl w _
  | v :: r, o, w => grown_trans_row (b := w.setCell ⟨b, o, none⟩ v) ⟨rfl, rfl, rfl, by simp [World.setCell], fun k _ hne => Below.heap_setCell w ⟨b, o, none⟩ v k (fun e => hne (by rw [e]))⟩ (grown_setCells b r (o + 1) (w.setCell ⟨b, o, none⟩ v))
theorem isSome_setCells_mem (b : Nat) : ∀ (vs : List Value) (o : Nat) (w : World) (x : Addr), (w.cell? x).isSome = true → ((w.setCells b o vs).cell? x).isSome = true
  | [], _, _, _, h => h
  | v :: r, o, w, x, h => isSome_setCells_mem b r (o + 1) _ x (by
      by_cases e : (⟨b, o, none⟩ : Addr) = x
      · subst e; rw [World.cell?_setCell_same' _ _ _ h]; rfl
      · rw [World.cell?_setCell_other w _ _ _ e]; exact h)
theorem left_row {w w' : World} {base : Nat} (h : w.grownBy w' none) (hbase : base ≤ w.heap.size) (row : Option Nat) (hr : ∀ k, row = some k → base ≤ k) : Left w w' base row :=
  ⟨⟨h.os, h.tape, h.output, h.size, fun k hk _ => h.block k hk (by simp)⟩, hbase, hr⟩

theorem Left.cell {w w' : World} {base : Nat} {row : Option Nat} (h : Left w w' base row) {p : Addr} {v : Value} (hc : w.cell? p = some v) (hne : row ≠ some p.block) : w'.cell? p = some v :=
  h.grown.cell hc (fun e => hne e.symm)
theorem Left.frozen {w w' : World} {base : Nat} {row : Option Nat} (h : Left w w' base row) {p : Addr} (hlt : p.block < w.heap.size) (hne : row ≠ some p.block) : w'.frozen? p = w.frozen? p :=
  World.frozen?_of_block (w := w) (h.grown.block p.block hlt (fun e => hne e.symm))
/-- The builtin append on a slice of the call's own, m elements from an address. -/
theorem run_app {t ty e : TypeId} {z : Value} {size bytes : Nat} (ht : P.underlying t = some (.slice e)) (hinfo : (P.info? e).map (fun i => (i.zero, i.size, i.bytes)) = some (some z, size, bytes)) (hzs : z.cells.size = size) (hsz : 0 < size)
    {base : Nat} {v : Value} {n : Nat} {xs : List Value} (hown : Owns w base size v n xs) (hbase : base ≤ w.heap.size)
    (ad : Addr) (m c : Nat) (news : List Value) (hl : news.length = m * size) (hnews : ∀ j u, news[j]? = some u → w.cell? (ad.add j) = some u) (h1 : ∀ u ∈ news, u.oneCell' = true)
    (h63 : n + m ≤ maxLen) (hbytes : (n + m) * bytes ≤ 140737488355328) :
    ∃ v' w', (Builtin.append_ #[t, t] ty #[v, .slice (some ad) m c]).run P w = .ok v' w' ∧ Owns w' base size v' (n + m) (xs ++ news) ∧ Left w w' base v.ownBlock ∧
      (v'.ownBlock = v.ownBlock ∨ ∀ k, v'.ownBlock = some k → w.heap.size ≤ k) := by
  obtain ⟨i, hi, hz0, hz1, hz2⟩ := info_parts hinfo
  have hge : ∀ k, v.ownBlock = some k → base ≤ k := fun k hk => (hown.lt k hk).1
  rcases hown.2 with ⟨rfl, rfl⟩ | ⟨g, off, cap, rfl, hb, hg, hnc, hcm, hc, hs⟩
  · have hx : xs = [] := List.eq_nil_of_length_eq_zero (by simpa using hown.1)
    subst hx
    obtain ⟨v', w', hrun, h2, h3, _, h5⟩ := run_append_own_at (P := P) (w := w) base t ty e i z size bytes ht hi hz0 hz1 hz2 hzs hsz _ 0 [] (World.ownsRow_nil w base e size) ad m c news hl hnews h1 h63 hbytes hbase
    refine ⟨v', w', hrun, Owns.of_row h2, ⟨h3, hbase, hge⟩, ?_⟩
    rcases h5 with h5 | h5
    · exact .inl h5
    · right; intro k hk; rw [h5] at hk; injection hk with hk; omega
  · by_cases hroom : n + m ≤ cap
    · have hfit : n * size + news.length ≤ cap * size := by rw [hl, ← Nat.add_mul]; exact Nat.mul_le_mul_right _ hroom
      have hthere : ∀ j, j < news.length → (w.cell? ⟨g, off + n * size + j, none⟩).isSome = true := fun j hj => by
        have := (hs (n * size + j) (by omega)).1; rwa [← Nat.add_assoc] at this
      have hfree : ∀ j, j < news.length → w.frozen? ⟨g, off + n * size + j, none⟩ = false := fun j hj => by
        have := (hs (n * size + j) (by omega)).2; rwa [← Nat.add_assoc] at this
      have hrun := run_append_room_cells (P := P) w t ty e i ht hi g off n cap ad m c news (by rw [hz1]; exact hl) hnews h1 hroom (by rw [hz1]; exact hthere) (by rw [hz1]; exact hfree)
      rw [hz1] at hrun
      refine ⟨_, _, hrun, ⟨by rw [List.length_append, hown.1, hl, Nat.add_mul], .inr ⟨g, off, cap, rfl, hb, ?_, hroom, hcm, fun j u hu => ?_, fun j hj => ⟨?_, ?_⟩⟩⟩, ⟨grown_setCells g news _ w, hbase, hge⟩, .inl rfl⟩
      · exact Nat.lt_of_lt_of_le hg (grown_setCells g news _ w).size
      · by_cases hj : j < xs.length
        · rw [List.getElem?_append_left hj] at hu
          rw [World.cell?_setCells_out g news _ w _ (fun _ _ => by left; show off + j < off + n * size; have := hown.1; omega)]
          exact hc j u hu
        · rw [List.getElem?_append_right (by omega)] at hu
          have hjn : j - xs.length < news.length := (List.getElem?_eq_some_iff.1 hu).1
          have := World.cell?_setCells_in g news (off + n * size) w hthere (j - xs.length) hjn
          have e : off + n * size + (j - xs.length) = off + j := by have := hown.1; omega
          rw [e] at this
          rw [this, ← hu, List.getElem?_eq_getElem hjn]
      · exact isSome_setCells_mem g news _ w _ (hs j hj).1
      · rw [World.frozen?_setCells]; exact (hs j hj).2
    · obtain ⟨v', w', hrun, r1, r2⟩ := run_append_arg_grows (P := P) w t ty e i z size bytes ht hi hz0 hz1 hz2 hzs hsz ⟨g, off, none⟩ n cap xs hown.1 (fun j u hu => by rw [add_form]; exact hc j u hu) ad m c news hl hnews (by omega) h63 hbytes
      have ho := Owns.of_row r1
      exact ⟨v', w', hrun, ho.more hbase, left_row r2 hbase _ hge, .inr fun k hk => (ho.lt k hk).1⟩

/-- 'out = append(out, ..)', m elements from an address. -/
theorem wpList_appN (hgd : o.guard = none) {s x : Operand} {t : TypeId} (ho : o.op = .call { callee := .builtin .append, args := #[s, x], argTypes := #[t, t] })
    {e : TypeId} {z : Value} {size bytes : Nat} (ht : P.underlying t = some (.slice e)) (hinfo : (P.info? e).map (fun i => (i.zero, i.size, i.bytes)) = some (some z, size, bytes)) (hzs : z.cells.size = size) (hsz : 0 < size)
    {base : Nat} {v : Value} {n : Nat} {xs : List Value} (hown : Owns w base size v n xs) (hs : a.eval s = v) (hbase : base ≤ w.heap.size)
    {ad : Addr} {m c : Nat} (hx : a.eval x = .slice (some ad) m c) (news : List Value) (hl : news.length = m * size) (hnews : ∀ j u, news[j]? = some u → w.cell? (ad.add j) = some u) (h1 : ∀ u ∈ news, u.oneCell' = true)
    (h63 : n + m ≤ maxLen) (hbytes : (n + m) * bytes ≤ 140737488355328)
    (h : ∀ A' c' w', Owns w' base size (.slice A' (n + m) c') (n + m) (xs ++ news) → Left w w' base v.ownBlock → (Value.ownBlock (.slice A' (n + m) c') = v.ownBlock ∨ ∀ k, Value.ownBlock (.slice A' (n + m) c') = some k → w.heap.size ≤ k) → wpList P ops Q rest (a.put o.dst (.slice A' (n + m) c')) w') :
    wpList P ops Q (o :: rest) a w := by
  refine wpList_plain hgd fun K hK => ?_
  obtain ⟨v', w', hrun, h2, h3, h4⟩ := run_app (P := P) (ty := o.type) ht hinfo hzs hsz hown hbase ad m c news hl hnews h1 h63 hbytes
  unfold Oper.wp execOp
  simp only [ho, resolve, invoke, builtin, Sem.run_bind, Sem.run_pure, Result.andThen_ok, List.map_toArray, List.map_cons, List.map_nil, hs, hx, hrun]
  obtain ⟨A', c', rfl⟩ := h2.form
  exact hK _ _ (h A' c' w' h2 h3 h4)
/-- 'out = append(out, x)' of one element of 'size' cells, just laid in a box of its own. -/
theorem wpList_add1 (hgd : o.guard = none) {s x : Operand} {t : TypeId} (ho : o.op = .call { callee := .builtin .append, args := #[s, x], argTypes := #[t, t] })
    {e : TypeId} {z : Value} {size bytes : Nat} (ht : P.underlying t = some (.slice e)) (hinfo : (P.info? e).map (fun i => (i.zero, i.size, i.bytes)) = some (some z, size, bytes)) (hzs : z.cells.size = size) (hsz : 0 < size)
    {base : Nat} {v : Value} {n : Nat} {xs : List Value} (hown : Owns w base size v n xs) (hs : a.eval s = v) (hbase : base ≤ w.heap.size)
    {c H : Nat} {news : Array Value} {e' : TypeId} (hx : a.eval x = .slice (some ⟨H, 0, none⟩) 1 c) (hH : w.heap.size = H) (hl : news.size = size) (h1 : ∀ u ∈ news.toList, u.oneCell' = true)
    (h63 : n + 1 ≤ maxLen) (hbytes : (n + 1) * bytes ≤ 140737488355328)
    (h : ∀ A' c' w', Owns w' base size (.slice A' (n + 1) c') (n + 1) (xs ++ news.toList) → Left w w' base v.ownBlock → (Value.ownBlock (.slice A' (n + 1) c') = v.ownBlock ∨ ∀ k, Value.ownBlock (.slice A' (n + 1) c') = some k → w.heap.size ≤ k) → wpList P ops Q rest (a.put o.dst (.slice A' (n + 1) c')) w') :
    wpList P ops Q (o :: rest) a (w.alloc (.cells news e')) := by
  subst hH
  refine wpList_appN hgd ho ht hinfo hzs hsz (hown.alloc _) hs (by simp; omega) hx news.toList (by simpa using hl) (fun j u hu => by
    rw [show (Addr.add ⟨w.heap.size, 0, none⟩ j) = ⟨w.heap.size, j, none⟩ by rw [add_form]; simp]
    rw [World.cell?_alloc_at _ _ _ _ rfl]
    simpa using hu) h1 h63 hbytes fun A' c' w' h2 h3 h4 => h A' c' w' h2 ⟨?_, hbase, fun k hk => (hown.lt k hk).1⟩ ?_
  · exact ⟨h3.grown.os, h3.grown.tape, h3.grown.output, Nat.le_trans (by simp) h3.grown.size, fun k hk hne => (h3.grown.block k (by simp; omega) hne).trans (Below.heap_alloc _ _ _ hk)⟩
  · rcases h4 with h4 | h4
    · exact .inl h4
    · right; intro k hk; have := h4 k hk; simp at this; omega

/-- 'string(out)' of bytes that the call owns. -/
theorem run_text {base : Nat} {v : Value} {n : Nat} {xs : List Int} {src dst e : TypeId} (hs : P.underlying src = some (.slice e)) (he : P.underlying e = some (.int .u8)) (hd : P.underlying dst = some .string)
    (hown : Owns w base 1 v n (xs.map (Value.int .u8))) : (convert src dst v).run P w = .ok (.string (strOfNums xs)) w := by
  have hl : xs.length = n := by have := hown.1; simpa using this
  rcases hown.2 with ⟨rfl, rfl⟩ | ⟨g, off, cap, rfl, _, _, _, _, hc, _⟩
  · have : xs = [] := List.eq_nil_of_length_eq_zero hl
    subst this
    rw [run_convert_bytes_nil w src e hs he 0 0 dst hd]; rfl
  · refine run_convert_bytes_arg w src e hs he g off n cap xs hl (fun i hi => ?_) dst hd
    have hil : i < xs.length := by omega
    exact hc i _ (by simp [List.getElem?_eq_getElem hil])
theorem wpList_text (hgd : o.guard = none) {src dst : TypeId} {x : Operand} (ho : o.op = .convert src dst x)
    {e : TypeId} (hs : P.underlying src = some (.slice e)) (he : P.underlying e = some (.int .u8)) (hd : P.underlying dst = some .string)
    {base : Nat} {v : Value} {n : Nat} {xs : List Int} (hown : Owns w base 1 v n (xs.map (Value.int .u8))) (hx : a.eval x = v)
    (h : wpList P ops Q rest (a.put o.dst (.string (strOfNums xs))) w) : wpList P ops Q (o :: rest) a w := by
  refine wpList_plain hgd fun K hK => ?_
  have hr := run_text (P := P) hs he hd hown
  unfold Oper.wp execOp
  simp only [ho, hx, Sem.run_bind, hr, Result.andThen_ok, Sem.run_pure]
  exact hK _ _ h

/-- '[]byte(s)': a slice of the call's own. -/
theorem run_bytes {src dst e : TypeId} (hs : P.underlying src = some .string) (hd : P.underlying dst = some (.slice e)) (he : P.underlying e = some (.int .u8)) (xs : List Int) (hw : ∀ x ∈ xs, 0 ≤ x ∧ x ≤ 255) (hsz : xs.length ≤ maxLen) (w : World) :
    ∃ v' w', (convert src dst (.string (strOfNums xs))).run P w = .ok v' w' ∧ Owns w' w.heap.size 1 v' xs.length (xs.map (Value.int .u8)) ∧ Left w w' w.heap.size none := by
  have hsize : (strOfNums xs).size = xs.length := strOfNums_size xs
  have hrun := run_bytes_of_string (P := P) w src dst e (strOfNums xs) hs hd he
  have hC := grownCap_ge w (strOfNums xs).size 0 e
  have hCm := grownCap_le_maxLen w (strOfNums xs).size 0 e (by rw [hsize]; exact hsz)
  generalize grownCap w (strOfNums xs).size 0 e = C at *
  have hrow : (bytesRow (strOfNums xs) C).size = C := by
    simp only [bytesRow, Array.size_append, Array.size_map, Array.size_replicate]
    have : (strOfNums xs).data.size = (strOfNums xs).size := rfl
    omega
  have hat : ∀ j, j < xs.length → (bytesRow (strOfNums xs) C)[j]? = some (.int .u8 (xs.getD j 0)) := by
    intro j hj
    rw [bytesRow_at _ _ _ (by show j < (strOfNums xs).size; omega)]
    have hb := hw xs[j] (List.getElem_mem hj)
    simp only [strOfNums]
    simp [List.getD_eq_getElem?_getD, List.getElem?_eq_getElem hj]
    omega
  rw [hrow, hsize] at hrun
  rw [hsize] at hC
  generalize bytesRow (strOfNums xs) C = row at *
  have hh : (w.drew.alloc (.cells row e (C, C + 1))).heap[w.heap.size]? = some (.cells row e (C, C + 1)) := heap_alloc_new w.drew _
  refine ⟨_, _, hrun, ⟨by simp, .inr ⟨w.heap.size, 0, C, rfl, Nat.le_refl _, by simp, hC, hCm, fun j u hu => ?_, fun j hj => ⟨?_, ?_⟩⟩⟩, ⟨⟨rfl, rfl, rfl, by simp, fun k hk _ => Below.heap_alloc w.drew _ k hk⟩, Nat.le_refl _, fun k hk => by cases hk⟩⟩
  · rw [Nat.zero_add, cell_of_row _ w.heap.size j _ e _ hh]
    have hj : j < xs.length := by have := (List.getElem?_eq_some_iff.1 hu).1; simpa using this
    rw [hat j hj, ← hu]
    simp [List.getD_eq_getElem?_getD, List.getElem?_eq_getElem hj]
  · rw [Nat.zero_add, cell_of_row _ w.heap.size j _ e _ hh]
    have : j < row.size := by omega
    simp [this]
  · rw [Nat.zero_add]
    simp only [World.frozen?, hh]
    simp
    omega
theorem wpList_bytes (hgd : o.guard = none) {src dst : TypeId} {x : Operand} (ho : o.op = .convert src dst x)
    {e : TypeId} (hs : P.underlying src = some .string) (hd : P.underlying dst = some (.slice e)) (he : P.underlying e = some (.int .u8)) {xs : List Int} (hx : a.eval x = .string (strOfNums xs)) (hw : ∀ x ∈ xs, 0 ≤ x ∧ x ≤ 255) (hsz : xs.length ≤ maxLen)
    (h : ∀ A' c' w', Owns w' w.heap.size 1 (.slice A' xs.length c') xs.length (xs.map (Value.int .u8)) → Left w w' w.heap.size none → wpList P ops Q rest (a.put o.dst (.slice A' xs.length c')) w') : wpList P ops Q (o :: rest) a w := by
  refine wpList_plain hgd fun K hK => ?_
  obtain ⟨v', w', hr, h1, h2⟩ := run_bytes (P := P) hs hd he xs hw hsz w
  unfold Oper.wp execOp
  simp only [ho, hx, Sem.run_bind, hr, Result.andThen_ok, Sem.run_pure]
  obtain ⟨A', c', rfl⟩ := h1.form
  exact hK _ _ (h A' c' w' h1 h2)
end
end Go.Proofs.YtgidfmdbaimcnaaDoor
