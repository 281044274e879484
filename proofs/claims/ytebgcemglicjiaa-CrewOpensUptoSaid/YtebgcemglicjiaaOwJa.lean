/- A list's beginning and its rest, as slices. -/
import Derived.Test.YtebgcemglicjiaaPlJb
import Derived.Maps.AppendAt
import Derived.Deep.AppendLies
import Derived.Laws.BytesArg
import Derived.Laws.OwnMore
import Derived.WalkSpells
import Derived.WalkLawsBesides
import Derived.Lib.Hide
import Derived.ArgAppend
import Derived.Laws.IdiomStrings
import Derived.Laws.IdiomCopy
import Derived.Lib.LazyBuf
import Derived.PlainAid
import Derived.Deep.RegionHeld3
import Derived.Deep.RegionLaw
import Derived.Laws.Rows
import Derived.Great.BuildSlice
import Derived.Laws.ResultCell
import Derived.Laws.CopyOwn
import Derived.Deep.WholeRow
/- Slices that a call makes itself: laws of our own at append, conversion to a string, index and store, over any program. -/
namespace Go.Proofs.Ytebgcemglicjiaa
open Go.RowKit

/-- What an append, a make or a conversion leaves: below 'base' nothing has turned; rows other than the one that was written are as they were. -/
structure Left (w w' : World) (base : Nat) (row : Option Nat) : Prop where
  grown : w.grownBy w' row
  base_le : base ≤ w.heap.size
  row_ge : ∀ k, row = some k → base ≤ k

theorem Left.below {w0 w w' : World} {base B : Nat} {row : Option Nat} (h : Left w w' base row) (hB : B ≤ base) (hb : Below B w0 w) : Below B w0 w' :=
  hb.grown h.grown (Nat.le_trans hB h.base_le) (fun k hk => Nat.le_trans hB (h.row_ge k hk))
theorem Left.size {w w' : World} {base : Nat} {row : Option Nat} (h : Left w w' base row) : w.heap.size ≤ w'.heap.size := h.grown.size
theorem Left.kept {w w' : World} {base base' : Nat} {row : Option Nat} (h : Left w w' base row) {e : TypeId} {size n : Nat} {v : Value} {xs : List Value}
    (hown : w.ownsRow base' e size v n xs) (hne : v.ownBlock = none ∨ v.ownBlock ≠ row) : w'.ownsRow base' e size v n xs := hown.kept h.grown hne
theorem ownBlock_ge {w : World} {base : Nat} {e : TypeId} {size n : Nat} {v : Value} {xs : List Value} (h : w.ownsRow base e size v n xs) : ∀ k, v.ownBlock = some k → base ≤ k := fun k hk => (h.lt k hk).1

section
variable {P : Program} {w : World} {ops : Array Oper} {rest : List Oper} {o : Oper} {a : Act} {Q : Exit → Act → World → Prop}

/-- 'out = append(out, x)' of one element of 'size' cells, just laid in a box of its own. -/
theorem wpList_app1 (hgd : o.guard = none) {s x : Operand} {t : TypeId} (ho : o.op = .call { callee := .builtin .append, args := #[s, x], argTypes := #[t, t] })
    {e : TypeId} {z : Value} {size bytes : Nat} (ht : P.underlying t = some (.slice e)) (hinfo : (P.info? e).map (fun i => (i.zero, i.size, i.bytes)) = some (some z, size, bytes)) (hzs : z.cells.size = size) (hsz : 0 < size)
    {base : Nat} {v : Value} {n : Nat} {xs : List Value} (hown : w.ownsRow base e size v n xs) (hs : a.eval s = v) (hbase : base ≤ w.heap.size)
    {c : Nat} {news : Array Value} {e' : TypeId} (hx : a.eval x = .slice (some ⟨w.heap.size, 0, none⟩) 1 c) (hl : news.size = size) (h1 : ∀ u ∈ news.toList, u.oneCell' = true)
    (h63 : n + 1 ≤ maxLen) (hbytes : (n + 1) * bytes ≤ 140737488355328)
    (h : ∀ v' w', w'.ownsRow base e size v' (n + 1) (xs ++ news.toList) → Left w w' base v.ownBlock → (v'.ownBlock = v.ownBlock ∨ v'.ownBlock = some (w.heap.size + 1)) → wpList P ops Q rest (a.put o.dst v') w') :
    wpList P ops Q (o :: rest) a (w.alloc (.cells news e')) := by
  refine wpList_plain hgd fun K hK => ?_
  obtain ⟨i, hi, hz0, hz1, hz2⟩ := info_parts hinfo
  obtain ⟨v', w', hrun, h2, h3, _, h5⟩ := run_append_own_at (P := P) (w := w.alloc (.cells news e')) base t o.type e i z size bytes ht hi hz0 hz1 hz2 hzs hsz v n xs (hown.alloc _)
    ⟨w.heap.size, 0, none⟩ 1 c news.toList (by simpa using hl) (fun j u hu => by
      rw [show (Addr.add ⟨w.heap.size, 0, none⟩ j) = ⟨w.heap.size, j, none⟩ by rw [add_form]; simp]
      rw [World.cell?_alloc_at _ _ _ _ rfl]
      simpa using hu) h1 h63 hbytes (by simp; omega)
  unfold Oper.wp execOp
  simp only [ho, resolve, invoke, builtin, Sem.run_bind, Sem.run_pure, Result.andThen_ok, List.map_toArray, List.map_cons, List.map_nil, hs, hx, hrun]
  refine hK _ _ (h v' w' h2 ⟨?_, hbase, ownBlock_ge hown⟩ (by simpa using h5))
  refine ⟨h3.os, h3.tape, h3.output, Nat.le_trans (by simp) h3.size, fun k hk hne => ?_⟩
  exact (h3.block k (by simp; omega) hne).trans (Below.heap_alloc _ _ _ hk)

/-- 'string(out)' of bytes that the call owns. -/
theorem run_str {base : Nat} {e : TypeId} {v : Value} {n : Nat} {xs : List Int} {src dst : TypeId} (hs : P.underlying src = some (.slice e)) (he : P.underlying e = some (.int .u8)) (hd : P.underlying dst = some .string)
    (hown : w.ownsRow base e 1 v n (xs.map (Value.int .u8))) : (convert src dst v).run P w = .ok (.string (strOfNums xs)) w := by
  have hl : xs.length = n := by have := hown.1; simpa using this
  rcases hown.2 with ⟨rfl, rfl⟩ | ⟨g, cap, cur, rfl, _, hh, hnc, hcap, hsz, hcur⟩
  · have : xs = [] := List.eq_nil_of_length_eq_zero hl
    subst this
    rw [run_convert_bytes_nil w src e hs he 0 0 dst hd]; rfl
  · refine run_convert_bytes_arg w src e hs he g 0 n cap xs hl (fun i hi => ?_) dst hd
    have h1 := hown.cellAt i (by omega)
    rw [Nat.zero_add, h1]
    have hil : i < xs.length := by omega
    simp [List.getElem?_eq_getElem hil]
/-- 'string([]byte{x})', the box's cell known. -/
theorem run_str1 {e : TypeId} {src dst : TypeId} (hs : P.underlying src = some (.slice e)) (he : P.underlying e = some (.int .u8)) (hd : P.underlying dst = some .string) (x : Int) :
    ∀ (W : World) (b c : Nat), W.cell? ⟨b, 0, none⟩ = some (.int .u8 x) → (convert src dst (.slice (some ⟨b, 0, none⟩) 1 c)).run P W = .ok (.string (strOfNums [x])) W := fun W b c h =>
  run_convert_bytes_arg W src e hs he b 0 1 c [x] rfl (fun i hi => by
    have : i = 0 := by omega
    subst this
    simpa using h) dst hd
theorem run_cat (xs ys : List Int) (h : xs.length + ys.length ≤ 9223372036854775807) : ∀ W : World, (Op.stringOp .add (strOfNums xs) (strOfNums ys)).run P W = .ok (.string (strOfNums (xs ++ ys))) W := fun W => by
  rw [run_string_add_sum _ _ _ (by rw [strOfNums_size, strOfNums_size]; exact h)]
  congr 2
  apply ByteArray.ext
  simp [strOfNums, ByteArray.data_append]
theorem wpList_str (hgd : o.guard = none) {src dst : TypeId} {x : Operand} (ho : o.op = .convert src dst x)
    {e : TypeId} (hs : P.underlying src = some (.slice e)) (he : P.underlying e = some (.int .u8)) (hd : P.underlying dst = some .string)
    {base : Nat} {v : Value} {n : Nat} {xs : List Int} (hown : w.ownsRow base e 1 v n (xs.map (Value.int .u8))) (hx : a.eval x = v)
    (h : wpList P ops Q rest (a.put o.dst (.string (strOfNums xs))) w) : wpList P ops Q (o :: rest) a w := by
  refine wpList_plain hgd fun K hK => ?_
  have hr := run_str (P := P) hs he hd hown
  unfold Oper.wp execOp
  simp only [ho, hx, Sem.run_bind, hr, Result.andThen_ok, Sem.run_pure]
  exact hK _ _ h
end
end Go.Proofs.Ytebgcemglicjiaa

/- A piece of a string. -/
namespace Go.Proofs.Ytebgcemglicjiaa
open Go.RowKit

theorem strOfNums_extract (O : List Int) (i j : Nat) : (strOfNums O).extract i j = strOfNums ((O.drop i).take (j - i)) := by
  apply ByteArray.ext
  simp only [ByteArray.data_extract, strOfNums]
  apply Array.ext'
  simp [List.map_drop, List.map_take]
theorem strOfNums_drop (O : List Int) (i : Nat) : (strOfNums O).extract i O.length = strOfNums (O.drop i) := by
  rw [strOfNums_extract, List.take_of_length_le (by simp)]

theorem run_cut {P : Program} {t : TypeId} (ht : P.underlying t = some .string) (s : ByteArray) (x y : Nat) (h1 : x ≤ y) (h2 : y ≤ s.size) : ∀ W : World, (Instr.sliceAt t (.string s) (some (.int .i64 (x : Int))) (some (.int .i64 (y : Int))) none).run P W = .ok (.string (s.extract x y)) W := fun W => by
  simp [Instr.sliceAt, Instr.slice, Instr.sliceBounds, Instr.sliceBound, go_sem, h1, h2, run_underlying ht]

/-- A byte of a string, at a place that is known. -/
theorem run_idx {P : Program} {t : TypeId} (ht : P.underlying t = some .string) (s : ByteArray) (x : Int) (p : Nat) (b : Int) (hx : x = (p : Int)) (hp : p < s.size) (hb : (((s[p]'hp).toNat : Nat) : Int) = b) : ∀ W : World, (Instr.index t (.string s) (.int .i64 x)).run P W = .ok (.int .u8 b) W := fun W => by
  subst hx
  rw [run_index_string (P := P) W t s .i64 (p : Int) ht, dif_pos ⟨by omega, by omega⟩]
  subst hb
  rfl
end Go.Proofs.Ytebgcemglicjiaa

/- Slices of the call's own, said of their cells (a slice made by make, append, a conversion, or cut out of one): laws of our own at append, store, conversion, over any program. -/
namespace Go.Proofs.Ytebgcemglicjiaa
open Go.RowKit Go.PlainAid

/-- The slice value v, of n elements of 'size' cells each, holds the cells xs, in a block from 'base' on; all cells up to its capacity are there and may be written. -/
def Owns (w : World) (base size : Nat) (v : Value) (n : Nat) (xs : List Value) : Prop :=
  xs.length = n * size ∧ ((v = .slice none 0 0 ∧ n = 0) ∨ ∃ g off cap, v = .slice (some ⟨g, off, none⟩) n cap ∧ base ≤ g ∧ g < w.heap.size ∧ n ≤ cap ∧ cap ≤ maxLen ∧
    (∀ (j : Nat) (u : Value), xs[j]? = some u → w.cell? ⟨g, off + j, none⟩ = some u) ∧ ∀ j, j < cap * size → (w.cell? ⟨g, off + j, none⟩).isSome = true ∧ w.frozen? ⟨g, off + j, none⟩ = false)

section
variable {w w' : World} {base size n : Nat} {v : Value} {xs : List Value}
theorem Owns.nil (w : World) (base size : Nat) : Owns w base size (.slice none 0 0) 0 [] := ⟨by simp, .inl ⟨rfl, rfl⟩⟩
theorem Owns.form (h : Owns w base size v n xs) : ∃ A c, v = .slice A n c := by
  rcases h.2 with ⟨rfl, rfl⟩ | ⟨g, off, cap, rfl, _⟩
  · exact ⟨none, 0, rfl⟩
  · exact ⟨_, _, rfl⟩
theorem Owns.of_row {e : TypeId} (h : w.ownsRow base e size v n xs) : Owns w base size v n xs := by
  refine ⟨h.1, ?_⟩
  rcases h.2 with h0 | ⟨g, cap, cur, hv, hb, hh, hnc, hcm, hcs, ht⟩
  · exact .inl h0
  · have hg : g < w.heap.size := by
      rcases Nat.lt_or_ge g w.heap.size with hlt | hge
      · exact hlt
      · rw [Array.getElem?_eq_none hge] at hh; cases hh
    subst hv
    refine .inr ⟨g, 0, cap, rfl, hb, hg, hnc, hcm, fun j u hu => ?_, fun j hj => ⟨?_, ?_⟩⟩
    · have hj : j < n * size := by rw [← h.1]; exact (List.getElem?_eq_some_iff.1 hu).1
      rw [Nat.zero_add, h.cellAt j hj]; exact hu
    · rw [Nat.zero_add, cell_of_row w g j cur e (0, 0) hh]
      have : j < cur.size := by omega
      simp [this]
    · rw [Nat.zero_add]; exact h.frozenAt j
theorem Owns.kept (h : Owns w base size v n xs) (hb : ∀ g, v.ownBlock = some g → w'.heap[g]? = w.heap[g]?) (hs : w.heap.size ≤ w'.heap.size) : Owns w' base size v n xs := by
  refine ⟨h.1, ?_⟩
  rcases h.2 with h0 | ⟨g, off, cap, rfl, h1, h2, h3, h4, h5, h6⟩
  · exact .inl h0
  · have e := hb g rfl
    refine .inr ⟨g, off, cap, rfl, h1, by omega, h3, h4, fun j u hu => ?_, fun j hj => ?_⟩
    · rw [World.cell?_of_block (w := w) (a := ⟨g, off + j, none⟩) e]; exact h5 j u hu
    · rw [World.cell?_of_block (w := w) (a := ⟨g, off + j, none⟩) e, World.frozen?_of_block (w := w) (a := ⟨g, off + j, none⟩) e]; exact h6 j hj
theorem Owns.lt (h : Owns w base size v n xs) : ∀ g, v.ownBlock = some g → base ≤ g ∧ g < w.heap.size := by
  intro k hk
  rcases h.2 with ⟨rfl, _⟩ | ⟨g, off, cap, rfl, h1, h2, _⟩
  · simp [Value.ownBlock] at hk
  · have : g = k := by simpa [Value.ownBlock] using hk
    subst this; exact ⟨h1, h2⟩
theorem Owns.alloc (h : Owns w base size v n xs) (o : Obj) : Owns (w.alloc o) base size v n xs :=
  h.kept (fun g hg => Below.heap_alloc w o g (h.lt g hg).2) (by simp)
theorem Owns.drew (h : Owns w base size v n xs) : Owns w.drew base size v n xs := h
theorem Owns.drewN (h : Owns w base size v n xs) (m : Nat) : Owns (w.drewN m) base size v n xs := h
theorem Owns.left {base' : Nat} {row : Option Nat} (h : Owns w base size v n xs) (hl : Left w w' base' row) (hne : v.ownBlock = none ∨ v.ownBlock ≠ row) : Owns w' base size v n xs :=
  h.kept (fun g hg => hl.grown.block g (h.lt g hg).2 (by rcases hne with e | e; · rw [e] at hg; cases hg
                                                         · rw [← hg]; exact e)) hl.size
theorem Owns.below {B : Nat} (h : Owns w base size v n xs) (hb : Below B w w') (hB : ∀ g, v.ownBlock = some g → g < B) : Owns w' base size v n xs :=
  h.kept (fun g hg => hb.block g (hB g hg)) hb.size
theorem Owns.fresh_below (h : Owns w base size v n xs) (hb : Below w.heap.size w w') : Owns w' base size v n xs := h.below hb fun g hg => (h.lt g hg).2
theorem Owns.setOther (h : Owns w base size v n xs) {p : Addr} (hp : v.ownBlock ≠ some p.block) (u : Value) : Owns (w.setCell p u) base size v n xs :=
  h.kept (fun g hg => Below.heap_setCell w p u g (fun e => hp (by rw [hg, e]))) (by simp [World.setCell])
theorem Owns.more {base' : Nat} (h : Owns w base size v n xs) (hB : base' ≤ base) : Owns w base' size v n xs := by
  refine ⟨h.1, ?_⟩
  rcases h.2 with h0 | ⟨g, off, cap, rfl, h1, h2⟩
  · exact .inl h0
  · exact .inr ⟨g, off, cap, rfl, by omega, h2⟩
/-- An element's cell, for an index: the slice's address and what lies there. -/
theorem Owns.at_ (h : Owns w base size v n xs) {j : Nat} {u : Value} (hu : xs[j]? = some u) :
    ∃ g off cap, v = .slice (some ⟨g, off, none⟩) n cap ∧ base ≤ g ∧ g < w.heap.size ∧ w.cell? ⟨g, off + j, none⟩ = some u ∧ w.frozen? ⟨g, off + j, none⟩ = false := by
  rcases h.2 with ⟨rfl, h0⟩ | ⟨g, off, cap, rfl, h1, h2, h3, h4, h5, h6⟩
  · have := h.1; subst h0; simp at this; subst this; simp at hu
  · have hj : j < xs.length := (List.getElem?_eq_some_iff.1 hu).1
    have hlt : j < cap * size := Nat.lt_of_lt_of_le (by rw [h.1] at hj; exact hj) (Nat.mul_le_mul_right _ h3)
    exact ⟨g, off, cap, rfl, h1, h2, h5 j u hu, (h6 j hlt).2⟩
/-- A store into an element's cell. -/
theorem Owns.set {g off cap : Nat} (h : Owns w base size (.slice (some ⟨g, off, none⟩) n cap) n xs) (j : Nat) (u : Value) :
    Owns (w.setCell ⟨g, off + j, none⟩ u) base size (.slice (some ⟨g, off, none⟩) n cap) n (xs.set j u) := by
  refine ⟨by rw [List.length_set]; exact h.1, ?_⟩
  rcases h.2 with ⟨e, _⟩ | ⟨g', off', cap', e, h1, h2, h3, h4, h5, h6⟩
  · cases e
  · injection e with e1 e2 e3
    injection e1 with e1
    injection e1 with e1 e4
    subst e1; subst e4; subst e3
    refine .inr ⟨g, off, cap, rfl, h1, by simpa [World.setCell] using h2, h3, h4, fun k x hx => ?_, fun k hk => ?_⟩
    · by_cases hkj : k = j
      · subst hkj
        have hk : k < xs.length := by have := (List.getElem?_eq_some_iff.1 hx).1; simpa using this
        rw [List.getElem?_set_self hk] at hx
        obtain rfl : u = x := by simpa using hx
        have hc := h5 k _ (List.getElem?_eq_getElem hk)
        exact World.cell?_setCell_same' _ _ _ (by rw [hc]; rfl)
      · rw [List.getElem?_set_ne (fun e => hkj e.symm)] at hx
        rw [World.cell?_setCell_other w _ _ _ (fun e => hkj (by injection e with _ e _; omega))]
        exact h5 k x hx
    · obtain ⟨c1, c2⟩ := h6 k hk
      refine ⟨?_, ?_⟩
      · by_cases hkj : k = j
        · subst hkj
          rw [World.cell?_setCell_same' _ _ _ c1]; rfl
        · rw [World.cell?_setCell_other w _ _ _ (fun e => hkj (by injection e with _ e _; omega))]
          exact c1
      · rw [World.frozen?_setCell]; exact c2
/-- An address of its own in another block. -/
theorem Owns.ne_of_le (h : Owns w base size v n xs) {g : Nat} (hg : w.heap.size ≤ g) : v.ownBlock ≠ some g := fun e => by have := (h.lt g e).2; omega
end

section
variable {P : Program} {w : World} {ops : Array Oper} {rest : List Oper} {o : Oper} {a : Act} {Q : Exit → Act → World → Prop}

theorem grown_trans_row {a b c : World} {row : Option Nat} (h : a.grownBy b row) (k : b.grownBy c row) : a.grownBy c row :=
  ⟨k.os.trans h.os, k.tape.trans h.tape, k.output.trans h.output, Nat.le_trans h.size k.size, fun i hi hne => (k.block i (Nat.lt_of_lt_of_le hi h.size) hne).trans (h.block i hi hne)⟩
theorem grown_setCells (b : Nat) : ∀ (vs : List Value) (o : Nat) (w : World), w.grownBy (w.setCells b o vs) (some b)
  | [], _, w => World.grownBy.refl w _
  | v :: r, o, w => grown_trans_row (b := w.setCell ⟨b, o, none⟩ v) ⟨rfl, rfl, rfl, by simp [World.setCell], fun k _ hne => Below.heap_setCell w ⟨b, o, none⟩ v k (fun e => hne (by rw [e]))⟩ (grown_setCells b r (o + 1) (w.setCell ⟨b, o, none⟩ v))
theorem isSome_setCells_mem (b : Nat) : ∀ (vs : List Value) (o : Nat) (w : World) (x : Addr), (w.cell? x).isSome = true → ((w.setCells b o vs).cell? x).isSome = true
  | [], _, _, _, h => h
  | v :: r, o, w, x, h => isSome_setCells_mem b r (o + 1) _ x (by
      by_cases e : (⟨b, o, none⟩ : Addr) = x
      · subst e; rw [World.cell?_setCell_same' _ _ _ h]; rfl
      · rw [World.cell?_setCell_other w _ _ _ e]; exact h)
theorem left_row {w w' : World} {base : Nat} (h : w.grownBy w' none) (hbase : base ≤ w.heap.size) (row : Option Nat) (hr : ∀ k, row = some k → base ≤ k) : Left w w' base row :=
  ⟨⟨h.os, h.tape, h.output, h.size, fun k hk _ => h.block k hk (by simp)⟩, hbase, hr⟩

theorem Left.cell {w w' : World} {base : Nat} {row : Option Nat} (h : Left w w' base row) {p : Addr} {v : Value} (hc : w.cell? p = some v) (hne : row ≠ some p.block) : w'.cell? p = some v :=
  h.grown.cell hc (fun e => hne e.symm)
theorem Left.frozen {w w' : World} {base : Nat} {row : Option Nat} (h : Left w w' base row) {p : Addr} (hlt : p.block < w.heap.size) (hne : row ≠ some p.block) : w'.frozen? p = w.frozen? p :=
  World.frozen?_of_block (w := w) (h.grown.block p.block hlt (fun e => hne e.symm))
/-- The builtin append on a slice of the call's own, m elements from an address. -/
theorem run_app {t ty e : TypeId} {z : Value} {size bytes : Nat} (ht : P.underlying t = some (.slice e)) (hinfo : (P.info? e).map (fun i => (i.zero, i.size, i.bytes)) = some (some z, size, bytes)) (hzs : z.cells.size = size) (hsz : 0 < size)
    {base : Nat} {v : Value} {n : Nat} {xs : List Value} (hown : Owns w base size v n xs) (hbase : base ≤ w.heap.size)
    (ad : Addr) (m c : Nat) (news : List Value) (hl : news.length = m * size) (hnews : ∀ j u, news[j]? = some u → w.cell? (ad.add j) = some u) (h1 : ∀ u ∈ news, u.oneCell' = true)
    (h63 : n + m ≤ maxLen) (hbytes : (n + m) * bytes ≤ 140737488355328) :
    ∃ v' w', (Builtin.append_ #[t, t] ty #[v, .slice (some ad) m c]).run P w = .ok v' w' ∧ Owns w' base size v' (n + m) (xs ++ news) ∧ Left w w' base v.ownBlock ∧
      (v'.ownBlock = v.ownBlock ∨ ∀ k, v'.ownBlock = some k → w.heap.size ≤ k) := by
  obtain ⟨i, hi, hz0, hz1, hz2⟩ := info_parts hinfo
  have hge : ∀ k, v.ownBlock = some k → base ≤ k := fun k hk => (hown.lt k hk).1
  rcases hown.2 with ⟨rfl, rfl⟩ | ⟨g, off, cap, rfl, hb, hg, hnc, hcm, hc, hs⟩
  · have hx : xs = [] := List.eq_nil_of_length_eq_zero (by simpa using hown.1)
    subst hx
    obtain ⟨v', w', hrun, h2, h3, _, h5⟩ := run_append_own_at (P := P) (w := w) base t ty e i z size bytes ht hi hz0 hz1 hz2 hzs hsz _ 0 [] (World.ownsRow_nil w base e size) ad m c news hl hnews h1 h63 hbytes hbase
    refine ⟨v', w', hrun, Owns.of_row h2, ⟨h3, hbase, hge⟩, ?_⟩
    rcases h5 with h5 | h5
    · exact .inl h5
    · right; intro k hk; rw [h5] at hk; injection hk with hk; omega
  · by_cases hroom : n + m ≤ cap
    · have hfit : n * size + news.length ≤ cap * size := by rw [hl, ← Nat.add_mul]; exact Nat.mul_le_mul_right _ hroom
      have hthere : ∀ j, j < news.length → (w.cell? ⟨g, off + n * size + j, none⟩).isSome = true := fun j hj => by
        have := (hs (n * size + j) (by omega)).1; rwa [← Nat.add_assoc] at this
      have hfree : ∀ j, j < news.length → w.frozen? ⟨g, off + n * size + j, none⟩ = false := fun j hj => by
        have := (hs (n * size + j) (by omega)).2; rwa [← Nat.add_assoc] at this
      have hrun := run_append_room_cells (P := P) w t ty e i ht hi g off n cap ad m c news (by rw [hz1]; exact hl) hnews h1 hroom (by rw [hz1]; exact hthere) (by rw [hz1]; exact hfree)
      rw [hz1] at hrun
      refine ⟨_, _, hrun, ⟨by rw [List.length_append, hown.1, hl, Nat.add_mul], .inr ⟨g, off, cap, rfl, hb, ?_, hroom, hcm, fun j u hu => ?_, fun j hj => ⟨?_, ?_⟩⟩⟩, ⟨grown_setCells g news _ w, hbase, hge⟩, .inl rfl⟩
      · exact Nat.lt_of_lt_of_le hg (grown_setCells g news _ w).size
      · by_cases hj : j < xs.length
        · rw [List.getElem?_append_left hj] at hu
          rw [World.cell?_setCells_out g news _ w _ (fun _ _ => by left; show off + j < off + n * size; have := hown.1; omega)]
          exact hc j u hu
        · rw [List.getElem?_append_right (by omega)] at hu
          have hjn : j - xs.length < news.length := (List.getElem?_eq_some_iff.1 hu).1
          have := World.cell?_setCells_in g news (off + n * size) w hthere (j - xs.length) hjn
          have e : off + n * size + (j - xs.length) = off + j := by have := hown.1; omega
          rw [e] at this
          rw [this, ← hu, List.getElem?_eq_getElem hjn]
      · exact isSome_setCells_mem g news _ w _ (hs j hj).1
      · rw [World.frozen?_setCells]; exact (hs j hj).2
    · obtain ⟨v', w', hrun, r1, r2⟩ := run_append_arg_grows (P := P) w t ty e i z size bytes ht hi hz0 hz1 hz2 hzs hsz ⟨g, off, none⟩ n cap xs hown.1 (fun j u hu => by rw [add_form]; exact hc j u hu) ad m c news hl hnews (by omega) h63 hbytes
      have ho := Owns.of_row r1
      exact ⟨v', w', hrun, ho.more hbase, left_row r2 hbase _ hge, .inr fun k hk => (ho.lt k hk).1⟩

/-- 'out = append(out, ..)', m elements from an address. -/
theorem wpList_appN (hgd : o.guard = none) {s x : Operand} {t : TypeId} (ho : o.op = .call { callee := .builtin .append, args := #[s, x], argTypes := #[t, t] })
    {e : TypeId} {z : Value} {size bytes : Nat} (ht : P.underlying t = some (.slice e)) (hinfo : (P.info? e).map (fun i => (i.zero, i.size, i.bytes)) = some (some z, size, bytes)) (hzs : z.cells.size = size) (hsz : 0 < size)
    {base : Nat} {v : Value} {n : Nat} {xs : List Value} (hown : Owns w base size v n xs) (hs : a.eval s = v) (hbase : base ≤ w.heap.size)
    {ad : Addr} {m c : Nat} (hx : a.eval x = .slice (some ad) m c) (news : List Value) (hl : news.length = m * size) (hnews : ∀ j u, news[j]? = some u → w.cell? (ad.add j) = some u) (h1 : ∀ u ∈ news, u.oneCell' = true)
    (h63 : n + m ≤ maxLen) (hbytes : (n + m) * bytes ≤ 140737488355328)
    (h : ∀ A' c' w', Owns w' base size (.slice A' (n + m) c') (n + m) (xs ++ news) → Left w w' base v.ownBlock → (Value.ownBlock (.slice A' (n + m) c') = v.ownBlock ∨ ∀ k, Value.ownBlock (.slice A' (n + m) c') = some k → w.heap.size ≤ k) → wpList P ops Q rest (a.put o.dst (.slice A' (n + m) c')) w') :
    wpList P ops Q (o :: rest) a w := by
  refine wpList_plain hgd fun K hK => ?_
  obtain ⟨v', w', hrun, h2, h3, h4⟩ := run_app (P := P) (ty := o.type) ht hinfo hzs hsz hown hbase ad m c news hl hnews h1 h63 hbytes
  unfold Oper.wp execOp
  simp only [ho, resolve, invoke, builtin, Sem.run_bind, Sem.run_pure, Result.andThen_ok, List.map_toArray, List.map_cons, List.map_nil, hs, hx, hrun]
  obtain ⟨A', c', rfl⟩ := h2.form
  exact hK _ _ (h A' c' w' h2 h3 h4)
/-- 'out = append(out, x)' of one element of 'size' cells, just laid in a box of its own. -/
theorem wpList_add1 (hgd : o.guard = none) {s x : Operand} {t : TypeId} (ho : o.op = .call { callee := .builtin .append, args := #[s, x], argTypes := #[t, t] })
    {e : TypeId} {z : Value} {size bytes : Nat} (ht : P.underlying t = some (.slice e)) (hinfo : (P.info? e).map (fun i => (i.zero, i.size, i.bytes)) = some (some z, size, bytes)) (hzs : z.cells.size = size) (hsz : 0 < size)
    {base : Nat} {v : Value} {n : Nat} {xs : List Value} (hown : Owns w base size v n xs) (hs : a.eval s = v) (hbase : base ≤ w.heap.size)
    {c H : Nat} {news : Array Value} {e' : TypeId} (hx : a.eval x = .slice (some ⟨H, 0, none⟩) 1 c) (hH : w.heap.size = H) (hl : news.size = size) (h1 : ∀ u ∈ news.toList, u.oneCell' = true)
    (h63 : n + 1 ≤ maxLen) (hbytes : (n + 1) * bytes ≤ 140737488355328)
    (h : ∀ A' c' w', Owns w' base size (.slice A' (n + 1) c') (n + 1) (xs ++ news.toList) → Left w w' base v.ownBlock → (Value.ownBlock (.slice A' (n + 1) c') = v.ownBlock ∨ ∀ k, Value.ownBlock (.slice A' (n + 1) c') = some k → w.heap.size ≤ k) → wpList P ops Q rest (a.put o.dst (.slice A' (n + 1) c')) w') :
    wpList P ops Q (o :: rest) a (w.alloc (.cells news e')) := by
  subst hH
  refine wpList_appN hgd ho ht hinfo hzs hsz (hown.alloc _) hs (by simp; omega) hx news.toList (by simpa using hl) (fun j u hu => by
    rw [show (Addr.add ⟨w.heap.size, 0, none⟩ j) = ⟨w.heap.size, j, none⟩ by rw [add_form]; simp]
    rw [World.cell?_alloc_at _ _ _ _ rfl]
    simpa using hu) h1 h63 hbytes fun A' c' w' h2 h3 h4 => h A' c' w' h2 ⟨?_, hbase, fun k hk => (hown.lt k hk).1⟩ ?_
  · exact ⟨h3.grown.os, h3.grown.tape, h3.grown.output, Nat.le_trans (by simp) h3.grown.size, fun k hk hne => (h3.grown.block k (by simp; omega) hne).trans (Below.heap_alloc _ _ _ hk)⟩
  · rcases h4 with h4 | h4
    · exact .inl h4
    · right; intro k hk; have := h4 k hk; simp at this; omega

/-- 'string(out)' of bytes that the call owns. -/
theorem run_text {base : Nat} {v : Value} {n : Nat} {xs : List Int} {src dst e : TypeId} (hs : P.underlying src = some (.slice e)) (he : P.underlying e = some (.int .u8)) (hd : P.underlying dst = some .string)
    (hown : Owns w base 1 v n (xs.map (Value.int .u8))) : (convert src dst v).run P w = .ok (.string (strOfNums xs)) w := by
  have hl : xs.length = n := by have := hown.1; simpa using this
  rcases hown.2 with ⟨rfl, rfl⟩ | ⟨g, off, cap, rfl, _, _, _, _, hc, _⟩
  · have : xs = [] := List.eq_nil_of_length_eq_zero hl
    subst this
    rw [run_convert_bytes_nil w src e hs he 0 0 dst hd]; rfl
  · refine run_convert_bytes_arg w src e hs he g off n cap xs hl (fun i hi => ?_) dst hd
    have hil : i < xs.length := by omega
    exact hc i _ (by simp [List.getElem?_eq_getElem hil])
theorem wpList_text (hgd : o.guard = none) {src dst : TypeId} {x : Operand} (ho : o.op = .convert src dst x)
    {e : TypeId} (hs : P.underlying src = some (.slice e)) (he : P.underlying e = some (.int .u8)) (hd : P.underlying dst = some .string)
    {base : Nat} {v : Value} {n : Nat} {xs : List Int} (hown : Owns w base 1 v n (xs.map (Value.int .u8))) (hx : a.eval x = v)
    (h : wpList P ops Q rest (a.put o.dst (.string (strOfNums xs))) w) : wpList P ops Q (o :: rest) a w := by
  refine wpList_plain hgd fun K hK => ?_
  have hr := run_text (P := P) hs he hd hown
  unfold Oper.wp execOp
  simp only [ho, hx, Sem.run_bind, hr, Result.andThen_ok, Sem.run_pure]
  exact hK _ _ h

/-- '[]byte(s)': a slice of the call's own. -/
theorem run_bytes {src dst e : TypeId} (hs : P.underlying src = some .string) (hd : P.underlying dst = some (.slice e)) (he : P.underlying e = some (.int .u8)) (xs : List Int) (hw : ∀ x ∈ xs, 0 ≤ x ∧ x ≤ 255) (hsz : xs.length ≤ maxLen) (w : World) :
    ∃ v' w', (convert src dst (.string (strOfNums xs))).run P w = .ok v' w' ∧ Owns w' w.heap.size 1 v' xs.length (xs.map (Value.int .u8)) ∧ Left w w' w.heap.size none := by
  have hsize : (strOfNums xs).size = xs.length := strOfNums_size xs
  have hrun := run_bytes_of_string (P := P) w src dst e (strOfNums xs) hs hd he
  have hC := grownCap_ge w (strOfNums xs).size 0 e
  have hCm := grownCap_le_maxLen w (strOfNums xs).size 0 e (by rw [hsize]; exact hsz)
  generalize grownCap w (strOfNums xs).size 0 e = C at *
  have hrow : (bytesRow (strOfNums xs) C).size = C := by
    simp only [bytesRow, Array.size_append, Array.size_map, Array.size_replicate]
    have : (strOfNums xs).data.size = (strOfNums xs).size := rfl
    omega
  have hat : ∀ j, j < xs.length → (bytesRow (strOfNums xs) C)[j]? = some (.int .u8 (xs.getD j 0)) := by
    intro j hj
    rw [bytesRow_at _ _ _ (by show j < (strOfNums xs).size; omega)]
    have hb := hw xs[j] (List.getElem_mem hj)
    simp only [strOfNums]
    simp [List.getD_eq_getElem?_getD, List.getElem?_eq_getElem hj]
    omega
  rw [hrow, hsize] at hrun
  rw [hsize] at hC
  generalize bytesRow (strOfNums xs) C = row at *
  have hh : (w.drew.alloc (.cells row e (C, C + 1))).heap[w.heap.size]? = some (.cells row e (C, C + 1)) := heap_alloc_new w.drew _
  refine ⟨_, _, hrun, ⟨by simp, .inr ⟨w.heap.size, 0, C, rfl, Nat.le_refl _, by simp, hC, hCm, fun j u hu => ?_, fun j hj => ⟨?_, ?_⟩⟩⟩, ⟨⟨rfl, rfl, rfl, by simp, fun k hk _ => Below.heap_alloc w.drew _ k hk⟩, Nat.le_refl _, fun k hk => by cases hk⟩⟩
  · rw [Nat.zero_add, cell_of_row _ w.heap.size j _ e _ hh]
    have hj : j < xs.length := by have := (List.getElem?_eq_some_iff.1 hu).1; simpa using this
    rw [hat j hj, ← hu]
    simp [List.getD_eq_getElem?_getD, List.getElem?_eq_getElem hj]
  · rw [Nat.zero_add, cell_of_row _ w.heap.size j _ e _ hh]
    have : j < row.size := by omega
    simp [this]
  · rw [Nat.zero_add]
    simp only [World.frozen?, hh]
    simp
    omega
theorem wpList_bytes (hgd : o.guard = none) {src dst : TypeId} {x : Operand} (ho : o.op = .convert src dst x)
    {e : TypeId} (hs : P.underlying src = some .string) (hd : P.underlying dst = some (.slice e)) (he : P.underlying e = some (.int .u8)) {xs : List Int} (hx : a.eval x = .string (strOfNums xs)) (hw : ∀ x ∈ xs, 0 ≤ x ∧ x ≤ 255) (hsz : xs.length ≤ maxLen)
    (h : ∀ A' c' w', Owns w' w.heap.size 1 (.slice A' xs.length c') xs.length (xs.map (Value.int .u8)) → Left w w' w.heap.size none → wpList P ops Q rest (a.put o.dst (.slice A' xs.length c')) w') : wpList P ops Q (o :: rest) a w := by
  refine wpList_plain hgd fun K hK => ?_
  obtain ⟨v', w', hr, h1, h2⟩ := run_bytes (P := P) hs hd he xs hw hsz w
  unfold Oper.wp execOp
  simp only [ho, hx, Sem.run_bind, hr, Result.andThen_ok, Sem.run_pure]
  obtain ⟨A', c', rfl⟩ := h1.form
  exact hK _ _ (h A' c' w' h1 h2)
end
end Go.Proofs.Ytebgcemglicjiaa

/- What go_region_held3 holds: k cells in old blocks, a floor for the heap's size, and Below; a draw and a call that leaves the old blocks keep it. -/
namespace Go.Proofs.Ytebgcemglicjiaa
open Go.RowKit
section
variable {w0 W W' : World} {N : Nat}
theorem keepc1d {a0 : Addr} {v0 : Value} (h : W.cell? a0 = some v0 ∧ N ≤ W.heap.size ∧ Below w0.heap.size w0 W) : W.drew.cell? a0 = some v0 ∧ N ≤ W.drew.heap.size ∧ Below w0.heap.size w0 W.drew := by
  obtain ⟨h0, hN, hw⟩ := h
  exact ⟨h0, hN, hw.drew⟩
theorem keepc1w {a0 : Addr} {v0 : Value} (h : W.cell? a0 = some v0 ∧ N ≤ W.heap.size ∧ Below w0.heap.size w0 W) : Below w0.heap.size w0 W := by
  obtain ⟨h0, hN, hw⟩ := h
  exact hw
theorem keepc1b {a0 : Addr} {v0 : Value} (b0 : a0.block < N) (h : W.cell? a0 = some v0 ∧ N ≤ W.heap.size ∧ Below w0.heap.size w0 W) (hb : Below W.heap.size W W') : W'.cell? a0 = some v0 ∧ N ≤ W'.heap.size ∧ Below w0.heap.size w0 W' := by
  obtain ⟨h0, hN, hw⟩ := h
  have hz := hb.size
  exact ⟨(hb.cell (p := a0) (by omega)).trans h0, by omega, hw.trans (hb.mono hw.size)⟩
theorem keepc2d {a0 a1 : Addr} {v0 v1 : Value} (h : W.cell? a0 = some v0 ∧ W.cell? a1 = some v1 ∧ N ≤ W.heap.size ∧ Below w0.heap.size w0 W) : W.drew.cell? a0 = some v0 ∧ W.drew.cell? a1 = some v1 ∧ N ≤ W.drew.heap.size ∧ Below w0.heap.size w0 W.drew := by
  obtain ⟨h0, h1, hN, hw⟩ := h
  exact ⟨h0, h1, hN, hw.drew⟩
theorem keepc2w {a0 a1 : Addr} {v0 v1 : Value} (h : W.cell? a0 = some v0 ∧ W.cell? a1 = some v1 ∧ N ≤ W.heap.size ∧ Below w0.heap.size w0 W) : Below w0.heap.size w0 W := by
  obtain ⟨h0, h1, hN, hw⟩ := h
  exact hw
theorem keepc2b {a0 a1 : Addr} {v0 v1 : Value} (b0 : a0.block < N) (b1 : a1.block < N) (h : W.cell? a0 = some v0 ∧ W.cell? a1 = some v1 ∧ N ≤ W.heap.size ∧ Below w0.heap.size w0 W) (hb : Below W.heap.size W W') : W'.cell? a0 = some v0 ∧ W'.cell? a1 = some v1 ∧ N ≤ W'.heap.size ∧ Below w0.heap.size w0 W' := by
  obtain ⟨h0, h1, hN, hw⟩ := h
  have hz := hb.size
  exact ⟨(hb.cell (p := a0) (by omega)).trans h0, (hb.cell (p := a1) (by omega)).trans h1, by omega, hw.trans (hb.mono hw.size)⟩
theorem keepc3d {a0 a1 a2 : Addr} {v0 v1 v2 : Value} (h : W.cell? a0 = some v0 ∧ W.cell? a1 = some v1 ∧ W.cell? a2 = some v2 ∧ N ≤ W.heap.size ∧ Below w0.heap.size w0 W) : W.drew.cell? a0 = some v0 ∧ W.drew.cell? a1 = some v1 ∧ W.drew.cell? a2 = some v2 ∧ N ≤ W.drew.heap.size ∧ Below w0.heap.size w0 W.drew := by
  obtain ⟨h0, h1, h2, hN, hw⟩ := h
  exact ⟨h0, h1, h2, hN, hw.drew⟩
theorem keepc3w {a0 a1 a2 : Addr} {v0 v1 v2 : Value} (h : W.cell? a0 = some v0 ∧ W.cell? a1 = some v1 ∧ W.cell? a2 = some v2 ∧ N ≤ W.heap.size ∧ Below w0.heap.size w0 W) : Below w0.heap.size w0 W := by
  obtain ⟨h0, h1, h2, hN, hw⟩ := h
  exact hw
theorem keepc3b {a0 a1 a2 : Addr} {v0 v1 v2 : Value} (b0 : a0.block < N) (b1 : a1.block < N) (b2 : a2.block < N) (h : W.cell? a0 = some v0 ∧ W.cell? a1 = some v1 ∧ W.cell? a2 = some v2 ∧ N ≤ W.heap.size ∧ Below w0.heap.size w0 W) (hb : Below W.heap.size W W') : W'.cell? a0 = some v0 ∧ W'.cell? a1 = some v1 ∧ W'.cell? a2 = some v2 ∧ N ≤ W'.heap.size ∧ Below w0.heap.size w0 W' := by
  obtain ⟨h0, h1, h2, hN, hw⟩ := h
  have hz := hb.size
  exact ⟨(hb.cell (p := a0) (by omega)).trans h0, (hb.cell (p := a1) (by omega)).trans h1, (hb.cell (p := a2) (by omega)).trans h2, by omega, hw.trans (hb.mono hw.size)⟩
theorem keepc4d {a0 a1 a2 a3 : Addr} {v0 v1 v2 v3 : Value} (h : W.cell? a0 = some v0 ∧ W.cell? a1 = some v1 ∧ W.cell? a2 = some v2 ∧ W.cell? a3 = some v3 ∧ N ≤ W.heap.size ∧ Below w0.heap.size w0 W) : W.drew.cell? a0 = some v0 ∧ W.drew.cell? a1 = some v1 ∧ W.drew.cell? a2 = some v2 ∧ W.drew.cell? a3 = some v3 ∧ N ≤ W.drew.heap.size ∧ Below w0.heap.size w0 W.drew := by
  obtain ⟨h0, h1, h2, h3, hN, hw⟩ := h
  exact ⟨h0, h1, h2, h3, hN, hw.drew⟩
theorem keepc4w {a0 a1 a2 a3 : Addr} {v0 v1 v2 v3 : Value} (h : W.cell? a0 = some v0 ∧ W.cell? a1 = some v1 ∧ W.cell? a2 = some v2 ∧ W.cell? a3 = some v3 ∧ N ≤ W.heap.size ∧ Below w0.heap.size w0 W) : Below w0.heap.size w0 W := by
  obtain ⟨h0, h1, h2, h3, hN, hw⟩ := h
  exact hw
theorem keepc4b {a0 a1 a2 a3 : Addr} {v0 v1 v2 v3 : Value} (b0 : a0.block < N) (b1 : a1.block < N) (b2 : a2.block < N) (b3 : a3.block < N) (h : W.cell? a0 = some v0 ∧ W.cell? a1 = some v1 ∧ W.cell? a2 = some v2 ∧ W.cell? a3 = some v3 ∧ N ≤ W.heap.size ∧ Below w0.heap.size w0 W) (hb : Below W.heap.size W W') : W'.cell? a0 = some v0 ∧ W'.cell? a1 = some v1 ∧ W'.cell? a2 = some v2 ∧ W'.cell? a3 = some v3 ∧ N ≤ W'.heap.size ∧ Below w0.heap.size w0 W' := by
  obtain ⟨h0, h1, h2, h3, hN, hw⟩ := h
  have hz := hb.size
  exact ⟨(hb.cell (p := a0) (by omega)).trans h0, (hb.cell (p := a1) (by omega)).trans h1, (hb.cell (p := a2) (by omega)).trans h2, (hb.cell (p := a3) (by omega)).trans h3, by omega, hw.trans (hb.mono hw.size)⟩
theorem keepc5d {a0 a1 a2 a3 a4 : Addr} {v0 v1 v2 v3 v4 : Value} (h : W.cell? a0 = some v0 ∧ W.cell? a1 = some v1 ∧ W.cell? a2 = some v2 ∧ W.cell? a3 = some v3 ∧ W.cell? a4 = some v4 ∧ N ≤ W.heap.size ∧ Below w0.heap.size w0 W) : W.drew.cell? a0 = some v0 ∧ W.drew.cell? a1 = some v1 ∧ W.drew.cell? a2 = some v2 ∧ W.drew.cell? a3 = some v3 ∧ W.drew.cell? a4 = some v4 ∧ N ≤ W.drew.heap.size ∧ Below w0.heap.size w0 W.drew := by
  obtain ⟨h0, h1, h2, h3, h4, hN, hw⟩ := h
  exact ⟨h0, h1, h2, h3, h4, hN, hw.drew⟩
theorem keepc5w {a0 a1 a2 a3 a4 : Addr} {v0 v1 v2 v3 v4 : Value} (h : W.cell? a0 = some v0 ∧ W.cell? a1 = some v1 ∧ W.cell? a2 = some v2 ∧ W.cell? a3 = some v3 ∧ W.cell? a4 = some v4 ∧ N ≤ W.heap.size ∧ Below w0.heap.size w0 W) : Below w0.heap.size w0 W := by
  obtain ⟨h0, h1, h2, h3, h4, hN, hw⟩ := h
  exact hw
theorem keepc5b {a0 a1 a2 a3 a4 : Addr} {v0 v1 v2 v3 v4 : Value} (b0 : a0.block < N) (b1 : a1.block < N) (b2 : a2.block < N) (b3 : a3.block < N) (b4 : a4.block < N) (h : W.cell? a0 = some v0 ∧ W.cell? a1 = some v1 ∧ W.cell? a2 = some v2 ∧ W.cell? a3 = some v3 ∧ W.cell? a4 = some v4 ∧ N ≤ W.heap.size ∧ Below w0.heap.size w0 W) (hb : Below W.heap.size W W') : W'.cell? a0 = some v0 ∧ W'.cell? a1 = some v1 ∧ W'.cell? a2 = some v2 ∧ W'.cell? a3 = some v3 ∧ W'.cell? a4 = some v4 ∧ N ≤ W'.heap.size ∧ Below w0.heap.size w0 W' := by
  obtain ⟨h0, h1, h2, h3, h4, hN, hw⟩ := h
  have hz := hb.size
  exact ⟨(hb.cell (p := a0) (by omega)).trans h0, (hb.cell (p := a1) (by omega)).trans h1, (hb.cell (p := a2) (by omega)).trans h2, (hb.cell (p := a3) (by omega)).trans h3, (hb.cell (p := a4) (by omega)).trans h4, by omega, hw.trans (hb.mono hw.size)⟩
theorem keepc6d {a0 a1 a2 a3 a4 a5 : Addr} {v0 v1 v2 v3 v4 v5 : Value} (h : W.cell? a0 = some v0 ∧ W.cell? a1 = some v1 ∧ W.cell? a2 = some v2 ∧ W.cell? a3 = some v3 ∧ W.cell? a4 = some v4 ∧ W.cell? a5 = some v5 ∧ N ≤ W.heap.size ∧ Below w0.heap.size w0 W) : W.drew.cell? a0 = some v0 ∧ W.drew.cell? a1 = some v1 ∧ W.drew.cell? a2 = some v2 ∧ W.drew.cell? a3 = some v3 ∧ W.drew.cell? a4 = some v4 ∧ W.drew.cell? a5 = some v5 ∧ N ≤ W.drew.heap.size ∧ Below w0.heap.size w0 W.drew := by
  obtain ⟨h0, h1, h2, h3, h4, h5, hN, hw⟩ := h
  exact ⟨h0, h1, h2, h3, h4, h5, hN, hw.drew⟩
theorem keepc6w {a0 a1 a2 a3 a4 a5 : Addr} {v0 v1 v2 v3 v4 v5 : Value} (h : W.cell? a0 = some v0 ∧ W.cell? a1 = some v1 ∧ W.cell? a2 = some v2 ∧ W.cell? a3 = some v3 ∧ W.cell? a4 = some v4 ∧ W.cell? a5 = some v5 ∧ N ≤ W.heap.size ∧ Below w0.heap.size w0 W) : Below w0.heap.size w0 W := by
  obtain ⟨h0, h1, h2, h3, h4, h5, hN, hw⟩ := h
  exact hw
theorem keepc6b {a0 a1 a2 a3 a4 a5 : Addr} {v0 v1 v2 v3 v4 v5 : Value} (b0 : a0.block < N) (b1 : a1.block < N) (b2 : a2.block < N) (b3 : a3.block < N) (b4 : a4.block < N) (b5 : a5.block < N) (h : W.cell? a0 = some v0 ∧ W.cell? a1 = some v1 ∧ W.cell? a2 = some v2 ∧ W.cell? a3 = some v3 ∧ W.cell? a4 = some v4 ∧ W.cell? a5 = some v5 ∧ N ≤ W.heap.size ∧ Below w0.heap.size w0 W) (hb : Below W.heap.size W W') : W'.cell? a0 = some v0 ∧ W'.cell? a1 = some v1 ∧ W'.cell? a2 = some v2 ∧ W'.cell? a3 = some v3 ∧ W'.cell? a4 = some v4 ∧ W'.cell? a5 = some v5 ∧ N ≤ W'.heap.size ∧ Below w0.heap.size w0 W' := by
  obtain ⟨h0, h1, h2, h3, h4, h5, hN, hw⟩ := h
  have hz := hb.size
  exact ⟨(hb.cell (p := a0) (by omega)).trans h0, (hb.cell (p := a1) (by omega)).trans h1, (hb.cell (p := a2) (by omega)).trans h2, (hb.cell (p := a3) (by omega)).trans h3, (hb.cell (p := a4) (by omega)).trans h4, (hb.cell (p := a5) (by omega)).trans h5, by omega, hw.trans (hb.mono hw.size)⟩
theorem keepc7d {a0 a1 a2 a3 a4 a5 a6 : Addr} {v0 v1 v2 v3 v4 v5 v6 : Value} (h : W.cell? a0 = some v0 ∧ W.cell? a1 = some v1 ∧ W.cell? a2 = some v2 ∧ W.cell? a3 = some v3 ∧ W.cell? a4 = some v4 ∧ W.cell? a5 = some v5 ∧ W.cell? a6 = some v6 ∧ N ≤ W.heap.size ∧ Below w0.heap.size w0 W) : W.drew.cell? a0 = some v0 ∧ W.drew.cell? a1 = some v1 ∧ W.drew.cell? a2 = some v2 ∧ W.drew.cell? a3 = some v3 ∧ W.drew.cell? a4 = some v4 ∧ W.drew.cell? a5 = some v5 ∧ W.drew.cell? a6 = some v6 ∧ N ≤ W.drew.heap.size ∧ Below w0.heap.size w0 W.drew := by
  obtain ⟨h0, h1, h2, h3, h4, h5, h6, hN, hw⟩ := h
  exact ⟨h0, h1, h2, h3, h4, h5, h6, hN, hw.drew⟩
theorem keepc7w {a0 a1 a2 a3 a4 a5 a6 : Addr} {v0 v1 v2 v3 v4 v5 v6 : Value} (h : W.cell? a0 = some v0 ∧ W.cell? a1 = some v1 ∧ W.cell? a2 = some v2 ∧ W.cell? a3 = some v3 ∧ W.cell? a4 = some v4 ∧ W.cell? a5 = some v5 ∧ W.cell? a6 = some v6 ∧ N ≤ W.heap.size ∧ Below w0.heap.size w0 W) : Below w0.heap.size w0 W := by
  obtain ⟨h0, h1, h2, h3, h4, h5, h6, hN, hw⟩ := h
  exact hw
theorem keepc7b {a0 a1 a2 a3 a4 a5 a6 : Addr} {v0 v1 v2 v3 v4 v5 v6 : Value} (b0 : a0.block < N) (b1 : a1.block < N) (b2 : a2.block < N) (b3 : a3.block < N) (b4 : a4.block < N) (b5 : a5.block < N) (b6 : a6.block < N) (h : W.cell? a0 = some v0 ∧ W.cell? a1 = some v1 ∧ W.cell? a2 = some v2 ∧ W.cell? a3 = some v3 ∧ W.cell? a4 = some v4 ∧ W.cell? a5 = some v5 ∧ W.cell? a6 = some v6 ∧ N ≤ W.heap.size ∧ Below w0.heap.size w0 W) (hb : Below W.heap.size W W') : W'.cell? a0 = some v0 ∧ W'.cell? a1 = some v1 ∧ W'.cell? a2 = some v2 ∧ W'.cell? a3 = some v3 ∧ W'.cell? a4 = some v4 ∧ W'.cell? a5 = some v5 ∧ W'.cell? a6 = some v6 ∧ N ≤ W'.heap.size ∧ Below w0.heap.size w0 W' := by
  obtain ⟨h0, h1, h2, h3, h4, h5, h6, hN, hw⟩ := h
  have hz := hb.size
  exact ⟨(hb.cell (p := a0) (by omega)).trans h0, (hb.cell (p := a1) (by omega)).trans h1, (hb.cell (p := a2) (by omega)).trans h2, (hb.cell (p := a3) (by omega)).trans h3, (hb.cell (p := a4) (by omega)).trans h4, (hb.cell (p := a5) (by omega)).trans h5, (hb.cell (p := a6) (by omega)).trans h6, by omega, hw.trans (hb.mono hw.size)⟩
theorem keepc8d {a0 a1 a2 a3 a4 a5 a6 a7 : Addr} {v0 v1 v2 v3 v4 v5 v6 v7 : Value} (h : W.cell? a0 = some v0 ∧ W.cell? a1 = some v1 ∧ W.cell? a2 = some v2 ∧ W.cell? a3 = some v3 ∧ W.cell? a4 = some v4 ∧ W.cell? a5 = some v5 ∧ W.cell? a6 = some v6 ∧ W.cell? a7 = some v7 ∧ N ≤ W.heap.size ∧ Below w0.heap.size w0 W) : W.drew.cell? a0 = some v0 ∧ W.drew.cell? a1 = some v1 ∧ W.drew.cell? a2 = some v2 ∧ W.drew.cell? a3 = some v3 ∧ W.drew.cell? a4 = some v4 ∧ W.drew.cell? a5 = some v5 ∧ W.drew.cell? a6 = some v6 ∧ W.drew.cell? a7 = some v7 ∧ N ≤ W.drew.heap.size ∧ Below w0.heap.size w0 W.drew := by
  obtain ⟨h0, h1, h2, h3, h4, h5, h6, h7, hN, hw⟩ := h
  exact ⟨h0, h1, h2, h3, h4, h5, h6, h7, hN, hw.drew⟩
theorem keepc8w {a0 a1 a2 a3 a4 a5 a6 a7 : Addr} {v0 v1 v2 v3 v4 v5 v6 v7 : Value} (h : W.cell? a0 = some v0 ∧ W.cell? a1 = some v1 ∧ W.cell? a2 = some v2 ∧ W.cell? a3 = some v3 ∧ W.cell? a4 = some v4 ∧ W.cell? a5 = some v5 ∧ W.cell? a6 = some v6 ∧ W.cell? a7 = some v7 ∧ N ≤ W.heap.size ∧ Below w0.heap.size w0 W) : Below w0.heap.size w0 W := by
  obtain ⟨h0, h1, h2, h3, h4, h5, h6, h7, hN, hw⟩ := h
  exact hw
theorem keepc8b {a0 a1 a2 a3 a4 a5 a6 a7 : Addr} {v0 v1 v2 v3 v4 v5 v6 v7 : Value} (b0 : a0.block < N) (b1 : a1.block < N) (b2 : a2.block < N) (b3 : a3.block < N) (b4 : a4.block < N) (b5 : a5.block < N) (b6 : a6.block < N) (b7 : a7.block < N) (h : W.cell? a0 = some v0 ∧ W.cell? a1 = some v1 ∧ W.cell? a2 = some v2 ∧ W.cell? a3 = some v3 ∧ W.cell? a4 = some v4 ∧ W.cell? a5 = some v5 ∧ W.cell? a6 = some v6 ∧ W.cell? a7 = some v7 ∧ N ≤ W.heap.size ∧ Below w0.heap.size w0 W) (hb : Below W.heap.size W W') : W'.cell? a0 = some v0 ∧ W'.cell? a1 = some v1 ∧ W'.cell? a2 = some v2 ∧ W'.cell? a3 = some v3 ∧ W'.cell? a4 = some v4 ∧ W'.cell? a5 = some v5 ∧ W'.cell? a6 = some v6 ∧ W'.cell? a7 = some v7 ∧ N ≤ W'.heap.size ∧ Below w0.heap.size w0 W' := by
  obtain ⟨h0, h1, h2, h3, h4, h5, h6, h7, hN, hw⟩ := h
  have hz := hb.size
  exact ⟨(hb.cell (p := a0) (by omega)).trans h0, (hb.cell (p := a1) (by omega)).trans h1, (hb.cell (p := a2) (by omega)).trans h2, (hb.cell (p := a3) (by omega)).trans h3, (hb.cell (p := a4) (by omega)).trans h4, (hb.cell (p := a5) (by omega)).trans h5, (hb.cell (p := a6) (by omega)).trans h6, (hb.cell (p := a7) (by omega)).trans h7, by omega, hw.trans (hb.mono hw.size)⟩
end
end Go.Proofs.Ytebgcemglicjiaa

/- append at a step of a region that draws its order, for a slice of the call's own; what such a slice holds, said as elements. -/
namespace Go.Proofs.Ytebgcemglicjiaa
open Go.RowKit

theorem flat_len {α : Type} {enc : α → List Value} {k : Nat} (hk : ∀ x, (enc x).length = k) : ∀ xs : List α, (xs.flatMap enc).length = xs.length * k
  | [] => by simp
  | x :: r => by rw [List.flatMap_cons, List.length_append, hk x, flat_len hk r, List.length_cons, Nat.add_mul, Nat.one_mul, Nat.add_comm]
theorem flat_at {α : Type} {enc : α → List Value} {k : Nat} (hk : ∀ x, (enc x).length = k) : ∀ (xs : List α) (i : Nat) (x : α), xs[i]? = some x → ∀ (j : Nat) (u : Value), (enc x)[j]? = some u → (xs.flatMap enc)[i * k + j]? = some u
  | [], i, x, h, j, u, hu => by simp at h
  | y :: r, 0, x, h, j, u, hu => by
    obtain rfl : y = x := by simpa using h
    have hj : j < (enc y).length := (List.getElem?_eq_some_iff.1 hu).1
    rw [List.flatMap_cons, Nat.zero_mul, Nat.zero_add, List.getElem?_append_left hj]
    exact hu
  | y :: r, i + 1, x, h, j, u, hu => by
    have h' : r[i]? = some x := by simpa using h
    have hyl := hk y
    rw [List.flatMap_cons, List.getElem?_append_right (by rw [hk y, Nat.add_mul, Nat.one_mul]; omega), hk y]
    rw [show (i + 1) * k + j - k = i * k + j by rw [Nat.add_mul, Nat.one_mul]; omega]
    exact flat_at hk r i x h' j u hu
/-- What the call owns, said as a row of elements. -/
theorem Owns.rows {α : Type} {enc : α → List Value} {k : Nat} (hk : ∀ x, (enc x).length = k) (hk0 : 0 < k) {w : World} {base n c : Nat} {A : Option Addr} {xs : List α} (h : Owns w base k (.slice A n c) n (xs.flatMap enc)) : RowsIn w w.heap.size A n c enc k xs := by
  have hl : xs.length = n := by
    have := h.1; rw [flat_len hk] at this
    exact Nat.eq_of_mul_eq_mul_right hk0 this
  rcases h.2 with ⟨e, h0⟩ | ⟨g, off, cap, e, h1, h2, h3, h4, h5, h6⟩
  · injection e with e1 e2 e3
    subst e1; subst e2; subst e3
    refine ⟨hl, Nat.le_refl _, Nat.zero_le _, fun i x hx => ?_⟩
    have : xs = [] := List.eq_nil_of_length_eq_zero hl
    subst this; simp at hx
  · injection e with e1 e2 e3
    subst e1; subst e3
    exact ⟨hl, h3, h4, fun i x hx => ⟨g, off, rfl, h2, fun j u hu => by rw [Nat.add_assoc]; exact h5 _ u (flat_at hk xs i x hx j u hu)⟩⟩

section
variable {P : Program} {w : World} {ops : Array Oper} {o : Oper} {a : Act} {K : Act → World → Prop} {Q : Exit → Act → World → Prop} {E : Prop}
/-- 'out = append(out, x)' of one element, laid in block B, at a step of a region that draws. -/
theorem step_app1 (hgd : o.guard = none) (s x : Operand) (t : TypeId) (ho : o.op = .call { callee := .builtin .append, args := #[s, x], argTypes := #[t, t] })
    {e : TypeId} {z : Value} {size bytes : Nat} (ht : P.underlying t = some (.slice e)) (hinfo : (P.info? e).map (fun i => (i.zero, i.size, i.bytes)) = some (some z, size, bytes)) (hzs : z.cells.size = size) (hsz : 0 < size)
    {base : Nat} (A : Option Addr) (n c0 : Nat) (xs : List Value) (hs : a.eval s = .slice A n c0) (hown : Owns w base size (.slice A n c0) n xs) (hbase : base ≤ w.heap.size)
    (B c : Nat) (news : Array Value) (e' : TypeId) (hx : a.eval x = .slice (some ⟨B, 0, none⟩) 1 c) (hB : w.heap[B]? = some (.cells news e')) (hl : news.size = size) (h1 : ∀ u ∈ news.toList, u.oneCell' = true)
    (h63 : n + 1 ≤ maxLen) (hbytes : (n + 1) * bytes ≤ 140737488355328)
    (h : ∀ A' c' w', Owns w' base size (.slice A' (n + 1) c') (n + 1) (xs ++ news.toList) → Left w w' base (Value.ownBlock (.slice A n c0)) → (Value.ownBlock (.slice A' (n + 1) c') = Value.ownBlock (.slice A n c0) ∨ ∀ k, Value.ownBlock (.slice A' (n + 1) c') = some k → w.heap.size ≤ k) → K (a.put o.dst (.slice A' (n + 1) c')) w') :
    if Region.wanted o (yielded ops a.tmps) = true then Oper.wp P o a w K Q else E := by
  have hw : Region.wanted o (yielded ops a.tmps) = true := by simp [Region.wanted, hgd]
  rw [if_pos hw]
  obtain ⟨v', w', hrun, h2, h3, h4⟩ := run_app (P := P) (ty := o.type) ht hinfo hzs hsz hown hbase ⟨B, 0, none⟩ 1 c news.toList (by simpa using hl) (fun j u hu => by
    rw [add_form, Nat.zero_add, cell_of_row w B j news e' _ hB]
    simpa using hu) h1 h63 hbytes
  unfold Oper.wp execOp
  simp only [ho, resolve, invoke, builtin, Sem.run_bind, Sem.run_pure, Result.andThen_ok, List.map_toArray, List.map_cons, List.map_nil, hs, hx, hrun]
  obtain ⟨A', c', rfl⟩ := h2.form
  exact h A' c' w' h2 h3 h4
end
end Go.Proofs.Ytebgcemglicjiaa

/- Struct locals, said as whole blocks; the results 'a block and a value'. -/
namespace Go.Proofs.Ytebgcemglicjiaa
open Go.RowKit

theorem results_cell_tmp_row {P : Program} {fn : Func} {p u : Tmp} {ty : TypeId} (h : fn.results = #[.cell p ty, .tmp u]) (tmps : Array Value) (w : World) (g : Nat) (t : TypeId) (cs : Array Value) (fr : Nat × Nat) (d : TypeDesc)
    (hp : tmps.getD p undef = .pointer (some ⟨g, 0, none⟩)) (hg : w.heap[g]? = some (.cells cs t fr))
    (hu : P.underlying ty = some d) (hd : (match d with | .struct _ | .array _ _ => true | _ => false) = true) (hi : (P.info? ty).map (·.size) = some cs.size) :
    (results fn tmps).run P w = .ok (.tuple #[.agg cs, tmps.getD u undef]) w := by
  have hp' : tmps[p]?.getD undef = .pointer (some ⟨g, 0, none⟩) := by simpa using hp
  simp [results, h, hp', asAddr, run_loadVar_row w g t ty cs fr d hg hu hd hi]
section
variable {w w' : World} {b : Nat} {t : TypeId}
theorem row_lt {x : Obj} (h : w.heap[b]? = some x) : b < w.heap.size := (Array.getElem?_eq_some_iff.1 h).1
theorem row_alloc {x : Obj} (h : w.heap[b]? = some x) (o : Obj) : (w.alloc o).heap[b]? = some x := (heap_alloc_old _ _ (row_lt h)).trans h
theorem row_below {B : Nat} {x : Obj} (h : w.heap[b]? = some x) (hB : b < B) (hb : Below B w w') : w'.heap[b]? = some x := (hb.block _ hB).trans h
theorem row_left {base : Nat} {row : Option Nat} {x : Obj} (h : w.heap[b]? = some x) (hl : Left w w' base row) (hne : row ≠ some b) : w'.heap[b]? = some x := (hl.grown.block _ (row_lt h) (fun e => hne e.symm)).trans h
theorem row_other {x : Obj} {a : Addr} {v : Value} (h : w.heap[b]? = some x) (hne : b ≠ a.block) : (w.setCell a v).heap[b]? = some x := (heap_setCell_other w a b v hne).trans h
theorem row_cell {cs : Array Value} {fr : Nat × Nat} (h : w.heap[b]? = some (.cells cs t fr)) (j : Nat) : w.cell? ⟨b, j, none⟩ = cs[j]? := cell_of_row w b j cs t fr h
theorem row_cold {cs : Array Value} (h : w.heap[b]? = some (.cells cs t (0, 0))) (j : Nat) : w.frozen? ⟨b, j, none⟩ = false := frozen_of_row w b j cs t h
theorem row_set {cs cs' : Array Value} {fr : Nat × Nat} (h : w.heap[b]? = some (.cells cs t fr)) : (w.setRow b cs').heap[b]? = some (.cells cs' t fr) := setRow_heap w b cs cs' t fr h
theorem Owns.setRow {base size n : Nat} {v : Value} {xs : List Value} (h : Owns w base size v n xs) (hb : b < base) (cs : Array Value) : Owns (w.setRow b cs) base size v n xs :=
  h.kept (fun g hg => setRow_other w b g cs (by have := (h.lt g hg).1; omega)) (by simp)
theorem row_store {cs : Array Value} {j : Nat} {v : Value} (h : w.heap[b]? = some (.cells cs t (0, 0))) : (w.setCell ⟨b, j, none⟩ v).heap[b]? = some (.cells (cs.setIfInBounds j v) t (0, 0)) := heap_setCell_same w b j cs t v h
theorem kept4 {w1 w2 : World} {v0 v1 v2 v3 : Value} {t : TypeId} (hb : Below (w1.alloc (.cells #[v0, v1, v2, v3] t)).heap.size (w1.alloc (.cells #[v0, v1, v2, v3] t)) w2) :
    w2.cell? ⟨w1.heap.size, 0, none⟩ = some v0 ∧ w2.cell? ⟨w1.heap.size, 1, none⟩ = some v1 ∧ w2.cell? ⟨w1.heap.size, 2, none⟩ = some v2 ∧ w2.cell? ⟨w1.heap.size, 3, none⟩ = some v3 ∧ w1.heap.size < w2.heap.size := by
  have h := heap_alloc_new w1 (.cells #[v0, v1, v2, v3] t)
  have hz : w1.heap.size < (w1.alloc (.cells #[v0, v1, v2, v3] t)).heap.size := by simp
  have h' := row_below h hz hb
  have := hb.size
  exact ⟨row_cell h' 0, row_cell h' 1, row_cell h' 2, row_cell h' 3, by omega⟩
theorem kept2 {w1 w2 : World} {v0 v1 : Value} {t : TypeId} (hb : Below (w1.alloc (.cells #[v0, v1] t)).heap.size (w1.alloc (.cells #[v0, v1] t)) w2) :
    w2.cell? ⟨w1.heap.size, 0, none⟩ = some v0 ∧ w2.cell? ⟨w1.heap.size, 1, none⟩ = some v1 ∧ w1.heap.size < w2.heap.size := by
  have h := heap_alloc_new w1 (.cells #[v0, v1] t)
  have hz : w1.heap.size < (w1.alloc (.cells #[v0, v1] t)).heap.size := by simp
  have h' := row_below h hz hb
  have := hb.size
  exact ⟨row_cell h' 0, row_cell h' 1, by omega⟩
theorem carry_rows {α : Type} {enc : α → List Value} {k n c : Nat} {A : Option Addr} {xs : List α} {w1 w2 : World} {o : Obj} (r : RowsIn w1 w1.heap.size A n c enc k xs) (hb : Below (w1.alloc o).heap.size (w1.alloc o) w2) (o' : Obj) :
    RowsIn (w2.alloc o') (w2.alloc o').heap.size A n c enc k xs := by
  have h0 : w1.heap.size ≤ (w1.alloc o).heap.size := by simp
  have h1 := hb.size
  exact (((r.alloc (Nat.le_refl _) o).below (hb.mono h0)).alloc (by omega) o').more (by simp; omega)
theorem carry_new {α : Type} {enc : α → List Value} {k n c : Nat} {A : Option Addr} {xs : List α} {w1 : World} (r : RowsIn w1 w1.heap.size A n c enc k xs) (o' : Obj) : RowsIn (w1.alloc o') (w1.alloc o').heap.size A n c enc k xs :=
  (r.alloc (Nat.le_refl _) o').more (by simp)
theorem carry_below {w w1 w2 : World} {o : Obj} (h : Below w.heap.size w w1) (hb : Below (w1.alloc o).heap.size (w1.alloc o) w2) (o' : Obj) : Below w.heap.size w (w2.alloc o') := by
  have h0 := h.size
  have h1 := hb.size
  have h2 : w1.heap.size ≤ (w1.alloc o).heap.size := by simp
  exact ((h.alloc h0 o).trans (hb.mono (by omega))).alloc (by omega) o'
end
end Go.Proofs.Ytebgcemglicjiaa

/- Where something first fails; a truth value returned. -/
namespace Go.Proofs.Ytebgcemglicjiaa
open Go.RowKit

theorem ret_b1 {a b : Bool} (h : a = b) : Ending.returned (.bool a) = .returned (.bool b) := by rw [h]
theorem first_to {G B : Nat → Prop} (n : Nat) (h : ∀ i, i < n → G i ∨ B i) : ∃ J, J ≤ n ∧ (∀ i, i < J → G i) ∧ (J < n → B J) := by
  induction n with
  | zero => exact ⟨0, Nat.le_refl _, fun i hi => by omega, fun hi => by omega⟩
  | succ n ih =>
    obtain ⟨J, h1, h2, h3⟩ := ih (fun i hi => h i (by omega))
    by_cases hJ : J < n
    · exact ⟨J, by omega, h2, fun _ => h3 hJ⟩
    · obtain rfl : J = n := by omega
      rcases h J (by omega) with hg | hb
      · exact ⟨J + 1, Nat.le_refl _, fun i hi => by
          by_cases e : i = J
          · subst e; exact hg
          · exact h2 i (by omega), fun hi => by omega⟩
      · exact ⟨J, by omega, h2, fun _ => hb⟩
end Go.Proofs.Ytebgcemglicjiaa

namespace Go.Proofs.Ytebgcemglicjiaa
open Go.RowKit

section
variable {α : Type} {w : World} {B m c n k : Nat} {A : Option Addr} {enc : α → List Value} {xs : List α}
theorem RowsIn.pre (h : RowsIn w B A m c enc k xs) (hn : n ≤ m) : RowsIn w B A n c enc k (xs.take n) :=
  ⟨by rw [List.length_take, h.len]; omega, by have := h.le; omega, h.top, fun i x hx => by
    have hi : i < n := by
      have := (List.getElem?_eq_some_iff.1 hx).1
      rw [List.length_take] at this; omega
    rw [List.getElem?_take, if_pos hi] at hx
    exact h.at_ i x hx⟩
theorem RowsIn.suf {b o : Nat} (h : RowsIn w B (some ⟨b, o, none⟩) m c enc k xs) (hn : n ≤ m) : RowsIn w B (some ⟨b, o + n * k, none⟩) (m - n) (c - n) enc k (xs.drop n) :=
  ⟨by rw [List.length_drop, h.len], by have := h.le; omega, by have := h.top; omega, fun i x hx => by
    rw [List.getElem?_drop] at hx
    obtain ⟨b', o', e, hb, hc⟩ := h.at_ (n + i) x hx
    injection e with e
    injection e with e1 e2 _
    subst e1; subst e2
    refine ⟨b, o + n * k, rfl, hb, fun j u hu => ?_⟩
    rw [show o + n * k + i * k + j = o + (n + i) * k + j by rw [Nat.add_mul]; omega]
    exact hc j u hu⟩
/-- All of it cut away: wherever the value points. -/
theorem RowsIn.none_left (h : RowsIn w B A m c enc k xs) (hn : m ≤ n) (A' : Option Addr) : RowsIn w B A' 0 0 enc k (xs.drop n) :=
  ⟨by rw [List.length_drop, h.len]; omega, Nat.le_refl _, Nat.zero_le _, fun i x hx => by rw [List.drop_eq_nil_of_le (by rw [h.len]; exact hn)] at hx; simp at hx⟩
/-- The rest behind n elements, whichever address the cut leaves. -/
theorem RowsIn.suf_any {b o : Nat} (h : RowsIn w B (some ⟨b, o, none⟩) m c enc k xs) (hn : n ≤ m) : RowsIn w B (if c = n then some ⟨b, o, none⟩ else some ⟨b, o + n * k, none⟩) (m - n) (c - n) enc k (xs.drop n) := by
  by_cases hc : c = n
  · rw [if_pos hc]
    have hl := h.le
    have := h.none_left (n := n) (by omega) (some ⟨b, o, none⟩)
    rw [show m - n = 0 by omega, show c - n = 0 by omega]; exact this
  · rw [if_neg hc]; exact h.suf hn
/-- The same, in the walk's own form, of elements of one cell. -/
theorem RowsIn.suf_opt (h : RowsIn w B A m c enc 1 xs) (hn : n ≤ m) : RowsIn w B (if c = n then A else A.map (fun x => x.add n)) (m - n) (c - n) enc 1 (xs.drop n) := by
  by_cases hm : m = n
  · refine ⟨by rw [List.length_drop, h.len], by have := h.le; omega, by have := h.top; omega, fun i x hx => ?_⟩
    rw [List.drop_eq_nil_of_le (by rw [h.len]; omega)] at hx; simp at hx
  · obtain ⟨b, o, e, _⟩ := h.at_ 0 _ (List.getElem?_eq_getElem (by rw [h.len]; omega))
    subst e
    have := h.suf_any hn
    simpa [add_form] using this
end
def IntRow (w : World) (B : Nat) (v : Value) (m : Nat) (xs : List Int) : Prop := ∃ A c, v = .slice A m c ∧ RowsIn w B A m c (fun z => [.int .i64 z]) 1 xs
theorem IntRow.below {w w' : World} {B m : Nat} {v : Value} {xs : List Int} (h : IntRow w B v m xs) (hb : Below B w w') : IntRow w' B v m xs := by
  obtain ⟨A, c, e, r⟩ := h; exact ⟨A, c, e, r.below hb⟩
end Go.Proofs.Ytebgcemglicjiaa
