/- Slices that a call makes itself: laws of our own at append, conversion to a string, index and store, over any program. -/
import Derived.Test.YtgidfmdbaimcnaaDoorKit
import Derived.Maps.AppendAt
import Derived.Deep.AppendLies
import Derived.Laws.BytesArg
import Derived.Laws.OwnMore
import Derived.WalkSpells
import Derived.WalkLawsBesides
import Derived.Lib.Hide
namespace Go.Proofs.YtgidfmdbaimcnaaDoor
open Go.RowKit

/-- What an append, a make or a conversion leaves: below 'base' nothing has turned; rows other than the one that was written are as they were. -/
structure Left (w w' : World) (base : Nat) (row : Option Nat) : Prop where
  grown : w.grownBy w' row
  base_le : base ≤ w.heap.size
  row_ge : ∀ k, row = some k → base ≤ k

theorem Left.below {w0 w w' : World} {base B : Nat} {row : Option Nat} (h : Left w w' base row) (hB : B ≤ base) (hb : Below B w0 w) : Below B w0 w' :=
  hb.grown h.grown (Nat.le_trans hB h.base_le) (fun k hk => Nat.le_trans hB (h.row_ge k hk))
theorem Left.size {w w' : World} {base : Nat} {row : Option Nat} (h : Left w w' base row) : w.heap.size ≤ w'.heap.size := h.grown.size
theorem Left.kept {w w' : World} {base base' : Nat} {row : Option Nat} (h : Left w w' base row) {e : TypeId} {size n : Nat} {v : Value} {xs : List Value}
    (hown : w.ownsRow base' e size v n xs) (hne : v.ownBlock = none ∨ v.ownBlock ≠ row) : w'.ownsRow base' e size v n xs := hown.kept h.grown hne
theorem ownBlock_ge {w : World} {base : Nat} {e : TypeId} {size n : Nat} {v : Value} {xs : List Value} (h : w.ownsRow base e size v n xs) : ∀ k, v.ownBlock = some k → base ≤ k := fun k hk => (h.lt k hk).1

section
variable {P : Program} {w : World} {ops : Array Oper} {rest : List Oper} {o : Oper} {a : Act} {Q : Exit → Act → World → Prop}

/-- 'out = append(out, x)' of one element of 'size' cells, just laid in a box of its own. -/
theorem wpList_app1 (hgd : o.guard = none) {s x : Operand} {t : TypeId} (ho : o.op = .call { callee := .builtin .append, args := #[s, x], argTypes := #[t, t] })
    {e : TypeId} {z : Value} {size bytes : Nat} (ht : P.underlying t = some (.slice e)) (hinfo : (P.info? e).map (fun i => (i.zero, i.size, i.bytes)) = some (some z, size, bytes)) (hzs : z.cells.size = size) (hsz : 0 < size)
    {base : Nat} {v : Value} {n : Nat} {xs : List Value} (hown : w.ownsRow base e size v n xs) (hs : a.eval s = v) (hbase : base ≤ w.heap.size)
    {c : Nat} {news : Array Value} {e' : TypeId} (hx : a.eval x = .slice (some ⟨w.heap.size, 0, none⟩) 1 c) (hl : news.size = size) (h1 : ∀ u ∈ news.toList, u.oneCell' = true)
    (h63 : n + 1 ≤ maxLen) (hbytes : (n + 1) * bytes ≤ 140737488355328)
    (h : ∀ v' w', w'.ownsRow base e size v' (n + 1) (xs ++ news.toList) → Left w w' base v.ownBlock → (v'.ownBlock = v.ownBlock ∨ v'.ownBlock = some (w.heap.size + 1)) → wpList P ops Q rest (a.put o.dst v') w') :
    wpList P ops Q (o :: rest) a (w.alloc (.cells news e')) := by
  refine wpList_plain hgd fun K hK => ?_
  obtain ⟨i, hi, hz0, hz1, hz2⟩ := info_parts hinfo
  obtain ⟨v', w', hrun, h2, h3, _, h5⟩ := run_append_own_at (P := P) (w := w.alloc (.cells news e')) base t o.type e i z size bytes ht hi hz0 hz1 hz2 hzs hsz v n xs (hown.alloc _)
    ⟨w.heap.size, 0, none⟩ 1 c news.toList (by simpa using hl) (fun j u hu => by
      rw [show (Addr.add ⟨w.heap.size, 0, none⟩ j) = ⟨w.heap.size, j, none⟩ by rw [add_form]; simp]
      rw [World.cell?_alloc_at _ _ _ _ rfl]
      simpa using hu) h1 h63 hbytes (by simp; omega)
  unfold Oper.wp execOp
  simp only [ho, resolve, invoke, builtin, Sem.run_bind, Sem.run_pure, Result.andThen_ok, List.map_toArray, List.map_cons, List.map_nil, hs, hx, hrun]
  refine hK _ _ (h v' w' h2 ⟨?_, hbase, ownBlock_ge hown⟩ (by simpa using h5))
  refine ⟨h3.os, h3.tape, h3.output, Nat.le_trans (by simp) h3.size, fun k hk hne => ?_⟩
  exact (h3.block k (by simp; omega) hne).trans (Below.heap_alloc _ _ _ hk)

/-- 'string(out)' of bytes that the call owns. -/
theorem run_str {base : Nat} {e : TypeId} {v : Value} {n : Nat} {xs : List Int} {src dst : TypeId} (hs : P.underlying src = some (.slice e)) (he : P.underlying e = some (.int .u8)) (hd : P.underlying dst = some .string)
    (hown : w.ownsRow base e 1 v n (xs.map (Value.int .u8))) : (convert src dst v).run P w = .ok (.string (strOfNums xs)) w := by
  have hl : xs.length = n := by have := hown.1; simpa using this
  rcases hown.2 with ⟨rfl, rfl⟩ | ⟨g, cap, cur, rfl, _, hh, hnc, hcap, hsz, hcur⟩
  · have : xs = [] := List.eq_nil_of_length_eq_zero hl
    subst this
    rw [run_convert_bytes_nil w src e hs he 0 0 dst hd]; rfl
  · refine run_convert_bytes_arg w src e hs he g 0 n cap xs hl (fun i hi => ?_) dst hd
    have h1 := hown.cellAt i (by omega)
    rw [Nat.zero_add, h1]
    have hil : i < xs.length := by omega
    simp [List.getElem?_eq_getElem hil]
/-- 'string([]byte{x})', the box's cell known. -/
theorem run_str1 {e : TypeId} {src dst : TypeId} (hs : P.underlying src = some (.slice e)) (he : P.underlying e = some (.int .u8)) (hd : P.underlying dst = some .string) (x : Int) :
    ∀ (W : World) (b c : Nat), W.cell? ⟨b, 0, none⟩ = some (.int .u8 x) → (convert src dst (.slice (some ⟨b, 0, none⟩) 1 c)).run P W = .ok (.string (strOfNums [x])) W := fun W b c h =>
  run_convert_bytes_arg W src e hs he b 0 1 c [x] rfl (fun i hi => by
    have : i = 0 := by omega
    subst this
    simpa using h) dst hd
theorem run_cat (xs ys : List Int) (h : xs.length + ys.length ≤ 9223372036854775807) : ∀ W : World, (Op.stringOp .add (strOfNums xs) (strOfNums ys)).run P W = .ok (.string (strOfNums (xs ++ ys))) W := fun W => by
  rw [run_string_add_sum _ _ _ (by rw [strOfNums_size, strOfNums_size]; exact h)]
  congr 2
  apply ByteArray.ext
  simp [strOfNums, ByteArray.data_append]
theorem wpList_str (hgd : o.guard = none) {src dst : TypeId} {x : Operand} (ho : o.op = .convert src dst x)
    {e : TypeId} (hs : P.underlying src = some (.slice e)) (he : P.underlying e = some (.int .u8)) (hd : P.underlying dst = some .string)
    {base : Nat} {v : Value} {n : Nat} {xs : List Int} (hown : w.ownsRow base e 1 v n (xs.map (Value.int .u8))) (hx : a.eval x = v)
    (h : wpList P ops Q rest (a.put o.dst (.string (strOfNums xs))) w) : wpList P ops Q (o :: rest) a w := by
  refine wpList_plain hgd fun K hK => ?_
  have hr := run_str (P := P) hs he hd hown
  unfold Oper.wp execOp
  simp only [ho, hx, Sem.run_bind, hr, Result.andThen_ok, Sem.run_pure]
  exact hK _ _ h
end
end Go.Proofs.YtgidfmdbaimcnaaDoor
