/- Go's copy from a string into a row that is known whole, and back to a string. -/
import Derived.Test.YtfhgglghofhndaaBlk
import Derived.Test.YtfhgglghofhndaaFileP
import Derived.Lib.BufferWrite
import Derived.Laws.CopyOwn
import Derived.Deep.RegionLaw
namespace Go.Proofs.Ytfhgglghofhndaa
open Go.RowKit

/-- Bytes as cells. -/
def bcs (l : List UInt8) : List Value := Lib.byteCells l
theorem bcs_len (l : List UInt8) : (bcs l).length = l.length := Lib.byteCells_length l
theorem splice_bcs (X T : List UInt8) (off : Nat) : splice (bcs X) off (bcs T) = bcs (X.take off ++ (T ++ X.drop (off + T.length))) := by
  unfold splice bcs
  rw [Lib.byteCells_length]
  unfold Lib.byteCells
  simp [List.map_take, List.map_drop]
section
variable {P : Program} {w : World} {ops : Array Oper} {rest : List Oper} {o : Oper} {a : Act} {Q : Exit → Act → World → Prop} {K : Act → World → Prop} {E : Prop}
theorem wpList_copy_str (hgd : o.guard = none) (d s : Operand) (dT sT : TypeId)
    (ho : o.op = .call { callee := .builtin .copy, args := #[d, s], argTypes := #[dT, sT] }) (elem : TypeId) (hu : P.underlying dT = some (.slice elem)) (hsz : (P.info? elem).map (·.size) = some 1)
    (g off dLen dCap : Nat) (hd : a.eval d = .slice (some ⟨g, off, none⟩) dLen dCap) (t : ByteArray) (hs : a.eval s = .string t)
    (cur : List Value) (ty : TypeId) (hg : w.heap[g]? = some (.cells cur.toArray ty (0, 0))) (hle : t.size ≤ dLen) (hfit : off + t.size ≤ cur.length) (B : Nat) (w0 : World) (hb : Below B w0 w) (hBg : B ≤ g)
    (h : ∀ w', Hid (w'.heap[g]? = some (.cells (splice cur off (bcs (bl t))).toArray ty (0, 0))) → Below B w0 w' → wpList P ops Q rest (a.put o.dst (.int .i64 t.size)) w') :
    wpList P ops Q (o :: rest) a w := by
  refine wpList_plain hgd fun K hK => ?_
  have hrun := Lib.run_copy_row_string (P := P) w dT sT o.type elem g off dLen dCap t cur.toArray ty hu hsz hg hle (by simpa using hfit)
  unfold Oper.wp
  simp only [execOp, ho, resolve, invoke, builtin, List.map_toArray, List.map_cons, List.map_nil, hd, hs, Sem.run_bind, Sem.run_pure, Result.andThen_ok, hrun]
  refine hK _ _ (h _ ?_ (below_setRow hb hBg _))
  show _ = _
  rw [setRow_heap w g _ _ ty _ hg]
  unfold splice
  rw [bcs_len, bl_len, ← List.append_assoc]; rfl
theorem step_copy_str (hgd : o.guard = none) (d s : Operand) (dT sT : TypeId)
    (ho : o.op = .call { callee := .builtin .copy, args := #[d, s], argTypes := #[dT, sT] }) (elem : TypeId) (hu : P.underlying dT = some (.slice elem)) (hsz : (P.info? elem).map (·.size) = some 1)
    (g off dLen dCap : Nat) (hd : a.eval d = .slice (some ⟨g, off, none⟩) dLen dCap) (t : ByteArray) (hs : a.eval s = .string t)
    (cur : List Value) (ty : TypeId) (hg : w.heap[g]? = some (.cells cur.toArray ty (0, 0))) (hle : t.size ≤ dLen) (hfit : off + t.size ≤ cur.length) (B : Nat) (w0 : World) (hb : Below B w0 w) (hBg : B ≤ g)
    (h : ∀ w', Hid (w'.heap[g]? = some (.cells (splice cur off (bcs (bl t))).toArray ty (0, 0))) → Below B w0 w' → K (a.put o.dst (.int .i64 t.size)) w') :
    if Region.wanted o (yielded ops a.tmps) = true then Oper.wp P o a w K Q else E := by
  have hw : Region.wanted o (yielded ops a.tmps) = true := by simp [Region.wanted, hgd]
  rw [if_pos hw]
  have hrun := Lib.run_copy_row_string (P := P) w dT sT o.type elem g off dLen dCap t cur.toArray ty hu hsz hg hle (by simpa using hfit)
  unfold Oper.wp
  simp only [execOp, ho, resolve, invoke, builtin, List.map_toArray, List.map_cons, List.map_nil, hd, hs, Sem.run_bind, Sem.run_pure, Result.andThen_ok, hrun]
  refine h _ ?_ (below_setRow hb hBg _)
  show _ = _
  rw [setRow_heap w g _ _ ty _ hg]
  unfold splice
  rw [bcs_len, bl_len, ← List.append_assoc]; rfl
theorem strOf_mk (l : List UInt8) : strOfNums (l.map fun b => (b.toNat : Int)) = mkS l := by
  apply ByteArray.ext; apply Array.ext'
  simp [strOfNums, mkS, Function.comp_def]
/-- 'string(b)' of a whole row of bytes. -/
theorem run_rowstr {src dst e : TypeId} (hs : P.underlying src = some (.slice e)) (he : P.underlying e = some (.int .u8)) (hd : P.underlying dst = some .string) (g c : Nat) (l : List UInt8) {ty : TypeId} {fr : Nat × Nat}
    (hg : w.heap[g]? = some (.cells (bcs l).toArray ty fr)) : (convert src dst (.slice (some ⟨g, 0, none⟩) l.length c)).run P w = .ok (.string (mkS l)) w := by
  rw [← strOf_mk]
  refine run_convert_bytes_arg w src e hs he g 0 l.length c _ (by simp) (fun i hi => ?_) dst hd
  rw [Nat.zero_add, row_cell hg i]
  simp [bcs, Lib.byteCells, List.getElem?_eq_getElem hi, List.getD_eq_getElem?_getD]
end
end Go.Proofs.Ytfhgglghofhndaa
