/- Signs written as codes: plain lists. -/
import Derived.Test.YtebgcemglicjiaaRows
import Derived.WalkKit
import Derived.ProofKit
import Derived.OpenShut
import Derived.ShutString
import Derived.ChangeOld
import Derived.Below
import Derived.SizedLaws
import Derived.Carry
import Derived.Deep.Slices
import Derived.Deep.Fields
import Derived.Deep.QuietTactic
import Derived.BigQuiet
import Derived.Handy
import Derived.Laws.BytesArg
import Derived.Test.YtebgcemglicjiaaPlJa
/- What comes in as memory, read as lists: small lemmas of our own, over any program. No condition. -/
namespace Go.Proofs.Ytebgcemglicjiaa
open Go.ChangeShapes Go.WideShapes Go.ChangeAt Go.RowKit Go.Deep
open Go.ChangeMaps (open_string shut_string)

/-- A slice value '.slice A n c' whose n elements, k cells each, read as the list xs, all below block B. -/
structure RowsIn {α : Type} (w : World) (B : Nat) (A : Option Addr) (n c : Nat) (enc : α → List Value) (k : Nat) (xs : List α) : Prop where
  len : xs.length = n
  le : n ≤ c
  top : c ≤ maxLen
  at_ : ∀ (i : Nat) (x : α), xs[i]? = some x → ∃ b o, A = some ⟨b, o, none⟩ ∧ b < B ∧ ∀ (j : Nat) (u : Value), (enc x)[j]? = some u → w.cell? ⟨b, o + i * k + j, none⟩ = some u

section
variable {α : Type} {w w' : World} {B B' n c k : Nat} {A : Option Addr} {enc : α → List Value} {xs : List α}
theorem RowsIn.keep (h : RowsIn w B A n c enc k xs) (hk : ∀ p : Addr, p.block < B → w'.cell? p = w.cell? p) : RowsIn w' B A n c enc k xs :=
  ⟨h.len, h.le, h.top, fun i x hx => by
    obtain ⟨b, o, e, hb, hc⟩ := h.at_ i x hx
    exact ⟨b, o, e, hb, fun j u hu => (hk ⟨b, _, none⟩ hb).trans (hc j u hu)⟩⟩
theorem RowsIn.below (h : RowsIn w B A n c enc k xs) (hb : Below B w w') : RowsIn w' B A n c enc k xs := h.keep fun _ hp => hb.cell hp
theorem RowsIn.more (h : RowsIn w B A n c enc k xs) (hB : B ≤ B') : RowsIn w B' A n c enc k xs :=
  ⟨h.len, h.le, h.top, fun i x hx => by
    obtain ⟨b, o, e, hb, hc⟩ := h.at_ i x hx
    exact ⟨b, o, e, by omega, hc⟩⟩
theorem RowsIn.drew (h : RowsIn w B A n c enc k xs) : RowsIn w.drew B A n c enc k xs := h.keep fun _ _ => rfl
theorem RowsIn.drewN (h : RowsIn w B A n c enc k xs) (m : Nat) : RowsIn (w.drewN m) B A n c enc k xs := h.keep fun _ _ => rfl
theorem RowsIn.alloc (h : RowsIn w B A n c enc k xs) (hB : B ≤ w.heap.size) (o : Obj) : RowsIn (w.alloc o) B A n c enc k xs := h.keep fun p hp => World.cell?_alloc_lt w o p (by omega)
/-- One cell an element: the cell of element i. -/
theorem RowsIn.one {f : α → Value} (h : RowsIn w B A n c (fun x => [f x]) 1 xs) {i : Nat} {x : α} (hx : xs[i]? = some x) :
    ∃ b o, A = some ⟨b, o, none⟩ ∧ b < B ∧ w.cell? ⟨b, o + i, none⟩ = some (f x) := by
  obtain ⟨b, o, e, hb, hc⟩ := h.at_ i x hx
  exact ⟨b, o, e, hb, by simpa using hc 0 _ rfl⟩
end

/-- Behind a call that makes memory of its own: the old cells read as before. -/
theorem old_cells {W w1 : World} (hb : Below W.heap.size W w1) : (∀ b o, b < W.heap.size → w1.cell? ⟨b, o, none⟩ = W.cell? ⟨b, o, none⟩) ∧ (∀ b o, b < W.heap.size → w1.frozen? ⟨b, o, none⟩ = W.frozen? ⟨b, o, none⟩) :=
  ⟨fun b o h => hb.cell (p := ⟨b, o, none⟩) h, fun b o h => hb.frozen (p := ⟨b, o, none⟩) h⟩
theorem ret_i1 {k : IntKind} {a b : Int} (h : a = b) : Ending.returned (.int k a) = .returned (.int k b) := by rw [h]
theorem ret_i2 {k k' : IntKind} {a b a' b' : Int} (h : a = b) (h' : a' = b') : Ending.returned (.tuple #[.int k a, .int k' a']) = .returned (.tuple #[.int k b, .int k' b']) := by rw [h, h']
theorem ret_i3 {k k' k'' : IntKind} {a b a' b' a'' b'' : Int} (h : a = b) (h' : a' = b') (h'' : a'' = b'') : Ending.returned (.tuple #[.int k a, .int k' a', .int k'' a'']) = .returned (.tuple #[.int k b, .int k' b', .int k'' b'']) := by rw [h, h', h'']
theorem ret_s1 {a b : ByteArray} (h : a = b) : Ending.returned (.string a) = .returned (.string b) := by rw [h]
theorem ret_s2 {k : IntKind} {a b : ByteArray} {a' b' : Int} (h : a = b) (h' : a' = b') : Ending.returned (.tuple #[.string a, .int k a']) = .returned (.tuple #[.string b, .int k b']) := by rw [h, h']
theorem val_int {k : IntKind} {a b : Int} (h : a = b) : (Value.int k a) = .int k b := by rw [h]

theorem exists_list {α : Type} {Q : Nat → α → Prop} : ∀ {n : Nat}, (∀ i, i < n → ∃ x, Q i x) → ∃ xs : List α, xs.length = n ∧ ∀ (i : Nat) (x : α), xs[i]? = some x → Q i x := by
  intro n
  induction n with
  | zero => exact fun _ => ⟨[], rfl, fun i x h => by simp at h⟩
  | succ n ih =>
    intro h
    obtain ⟨xs, hl, hq⟩ := ih (fun i hi => h i (by omega))
    obtain ⟨y, hy⟩ := h n (by omega)
    refine ⟨xs ++ [y], by simp [hl], fun i x hx => ?_⟩
    by_cases hi : i < n
    · rw [List.getElem?_append_left (by omega)] at hx
      exact hq i x hx
    · have hi' : i = n := by
        have := (List.getElem?_eq_some_iff.1 hx).1
        simp at this
        omega
      subst hi'
      rw [List.getElem?_append_right (by omega), hl] at hx
      simp at hx
      subst hx
      exact hy

section
variable {H : Type} {enc : TypeId × Value → H} {P : Program} {w : World} {base : Nat} {spare : Nat → Bool} {held : Bool}

theorem block_of_add (a : Addr) (n : Nat) : (a.add n).block = a.block := by unfold Addr.add; split <;> rfl
theorem add_of_add (a : Addr) (i j : Nat) : (a.add i).add j = a.add (i + j) := by
  unfold Addr.add
  by_cases hi : i = 0 <;> by_cases hj : j = 0 <;> simp [hi, hj, Nat.add_assoc]
theorem add_form (b o n : Nat) : (Addr.add ⟨b, o, none⟩ n) = ⟨b, o + n, none⟩ := by
  unfold Addr.add
  split
  · rename_i h; subst h; rfl
  · rfl

/-- A slice that came in, its elements read one by one by 'hel': a list. -/
theorem open_rows {t e : TypeId} {α : Type} {cells : α → List Value} {ok : α → Prop} {A : Option Addr} {n c k fuel : Nat} {x : DataW H × List MemPlace}
    (ht : P.underlying t = some (.slice e)) (hk : P.cellsOf e = k) (hk0 : 0 < k)
    (hel : ∀ (m : Nat) (cs : List Value) (y : DataW H × List MemPlace), DataW.trod enc P w base spare held m e cs = some y → ∃ z : α, cs = cells z ∧ ok z)
    (h : DataW.trod enc P w base spare held fuel t [.slice A n c] = some x) :
    (∃ xs : List α, RowsIn w w.heap.size A n c cells k xs ∧ ∀ z ∈ xs, ok z) ∧
      ((A = none ∧ n = 0 ∧ c = 0 ∧ x.1 = .nil) ∨ ∃ elems sp, x.1 = .slice elems sp ∧ elems.length = n ∧ ((∀ b, spare b = true) → sp.length = c - n)) := by
  rcases open_slice ht h with ⟨hcs, hx⟩ | ⟨a, len, cap, m, n', D, Pl, hcs, hb, hl, hm, hmm, hx, hi⟩
  · simp only [List.cons.injEq, Value.slice.injEq, and_true] at hcs
    obtain ⟨rfl, rfl, rfl⟩ := hcs
    exact ⟨⟨[], ⟨rfl, Nat.le_refl _, Nat.zero_le _, fun i x hx => by simp at hx⟩, fun z hz => by simp at hz⟩, .inl ⟨rfl, rfl, rfl, by rw [hx]⟩⟩
  · simp only [List.cons.injEq, Value.slice.injEq, and_true] at hcs
    obtain ⟨rfl, rfl, rfl⟩ := hcs
    obtain ⟨b, o, s⟩ := a
    have hle : n ≤ m := by rw [hmm]; split <;> omega
    have one : ∀ i, i < n → ∃ z : α, ok z ∧ (cells z).length = k ∧ ∀ j u, (cells z)[j]? = some u → w.cell? (Addr.add ⟨b, o, s⟩ (i * k + j)) = some u := by
      intro i him
      obtain ⟨cs', hc, ht'⟩ := hi i (by omega)
      obtain ⟨z, rfl, hz⟩ := hel _ _ _ ht'
      obtain ⟨_, hcl, hat⟩ := World.cells?_some hc
      refine ⟨z, hz, by omega, fun j u hu => ?_⟩
      have hj : j < P.cellsOf e := by rw [← hcl]; exact (List.getElem?_eq_some_iff.1 hu).1
      have h1 := (hat j hj).trans hu
      rwa [hk, add_of_add] at h1
    have hs : 0 < n → s = none := by
      intro hn
      obtain ⟨z, _, hz, h1⟩ := one 0 hn
      have h0 := h1 0 _ (List.getElem?_eq_getElem (by omega))
      exact World.cell?_spot (a := ⟨b, o, s⟩) (by simpa [Addr.add] using h0)
    obtain ⟨xs, hlen, hq⟩ := exists_list (n := n) (Q := fun i (z : α) => ok z ∧ s = none ∧ b < w.heap.size ∧ ∀ j u, (cells z)[j]? = some u → w.cell? ⟨b, o + i * k + j, none⟩ = some u) (by
      intro i him
      obtain rfl : s = none := hs (by omega)
      obtain ⟨z, hz, hzl, h1⟩ := one i him
      have h0 := h1 0 _ (List.getElem?_eq_getElem (by omega))
      rw [add_form] at h0
      refine ⟨z, hz, rfl, World.block_lt_of_cell? w _ h0, fun j u hu => ?_⟩
      have := h1 j u hu
      rwa [add_form, ← Nat.add_assoc] at this)
    refine ⟨⟨xs, ⟨hlen, hl, hm, fun i z hz => ?_⟩, fun z hz => ?_⟩, .inr ⟨_, _, by rw [hx], by simp, ?_⟩⟩
    · obtain ⟨_, hs, hb, hc⟩ := hq i z hz
      exact ⟨b, o, by rw [hs], hb, hc⟩
    · obtain ⟨i, hi'⟩ := List.mem_iff_getElem?.1 hz
      exact (hq i z hi').1
    · intro hsp
      simp only [List.length_map, List.length_range]
      rw [hmm, if_pos (hsp _)]

/-- The same of a cell whose form is not yet known. -/
theorem open_rows_v {t e : TypeId} {α : Type} {cells : α → List Value} {ok : α → Prop} {v : Value} {k fuel : Nat} {x : DataW H × List MemPlace}
    (ht : P.underlying t = some (.slice e)) (hk : P.cellsOf e = k) (hk0 : 0 < k)
    (hel : ∀ (m : Nat) (cs : List Value) (y : DataW H × List MemPlace), DataW.trod enc P w base spare held m e cs = some y → ∃ z : α, cs = cells z ∧ ok z)
    (h : DataW.trod enc P w base spare held fuel t [v] = some x) :
    ∃ A n c, v = .slice A n c ∧ (∃ xs : List α, RowsIn w w.heap.size A n c cells k xs ∧ ∀ z ∈ xs, ok z) ∧
      ((A = none ∧ n = 0 ∧ c = 0 ∧ x.1 = .nil) ∨ ∃ elems sp, x.1 = .slice elems sp ∧ elems.length = n ∧ ((∀ b, spare b = true) → sp.length = c - n)) := by
  obtain ⟨A, n, c, rfl⟩ : ∃ A n c, v = .slice A n c := by
    rcases DataW.trod_slice ht h with ⟨hc, _⟩ | ⟨a, len, cap, _, _, _, _, hc, _⟩
    · simp only [List.cons.injEq, and_true] at hc; exact ⟨_, _, _, hc⟩
    · simp only [List.cons.injEq, and_true] at hc; exact ⟨_, _, _, hc⟩
  exact ⟨A, n, c, rfl, open_rows ht hk hk0 hel h⟩
/-- A struct's weights are its fields' weights. -/
theorem sized_agg {ts : List TypeId} {ds : List (DataW H)} (h : (DataW.weightsEach P ts ds).all (· ≤ reachBytes) = true) {j : Nat} {t : TypeId} {fs : Array Field} {parts : List (DataW H)} (ht : ts[j]? = some t) (hd : ds[j]? = some (.agg parts)) (hu : P.underlying t = some (.struct fs)) :
    (DataW.weightsEach P (fs.toList.map (·.type)) parts).all (· ≤ reachBytes) = true := by
  rw [List.all_eq_true]
  intro n hn
  exact List.all_eq_true.1 h _ (DataW.weights_mem_each ht hd n (by simpa [DataW.weights, hu] using hn))
/-- One-cell elements: an integer kind. -/
theorem el_int {k : IntKind} {t : TypeId} (ht : P.underlying t = some (.int k)) : ∀ (m : Nat) (cs : List Value) (y : DataW H × List MemPlace), DataW.trod enc P w base spare held m t cs = some y → ∃ z : Int, cs = [.int k z] ∧ (Lit.int k z).wf = true := by
  intro m cs y h
  obtain ⟨n, hc, _, hw⟩ := DataW.trod_int ht h
  exact ⟨n, hc, hw⟩
theorem el_bool {t : TypeId} (ht : P.underlying t = some .bool) : ∀ (m : Nat) (cs : List Value) (y : DataW H × List MemPlace), DataW.trod enc P w base spare held m t cs = some y → ∃ z : Bool, cs = [.bool z] ∧ True := by
  intro m cs y h
  obtain ⟨n, hc, _⟩ := DataW.trod_bool ht h
  exact ⟨n, hc, trivial⟩
theorem el_string {t : TypeId} (ht : P.underlying t = some .string) : ∀ (m : Nat) (cs : List Value) (y : DataW H × List MemPlace), DataW.trod enc P w base spare held m t cs = some y → ∃ z : ByteArray, cs = [.string z] ∧ z.size ≤ maxLen := by
  intro m cs y h
  obtain ⟨n, hc, _, hw⟩ := DataW.trod_string ht h
  exact ⟨n, hc, hw⟩
/-- A struct of one-cell fields: each field's cell, read by itself. -/
theorem el_fields {t : TypeId} {fs : Array Field} (ht : P.underlying t = some (.struct fs)) (hone : oneCellFields P fs = true) (hC : P.cellsOf t = fs.size) {m : Nat} {cs : List Value} {y : DataW H × List MemPlace}
    (h : DataW.trod enc P w base spare held m t cs = some y) :
    cs.length = fs.size ∧ ∃ ys : List (DataW H × List MemPlace), ys.length = fs.size ∧ y = (.agg (ys.map (·.1)), ys.flatMap (·.2)) ∧
      ∀ (j : Nat) (f : Field), fs[j]? = some f → ∃ (v : Value) (z : DataW H × List MemPlace) (n : Nat), cs[j]? = some v ∧ ys[j]? = some z ∧ DataW.trod enc P w base spare held n f.type [v] = some z := by
  obtain ⟨ys, n, _, hy, hl, hyl, hf⟩ := DataW.trod_struct ht h
  refine ⟨hl.trans hC, ys, hyl, hy, fun j f hj => ?_⟩
  obtain ⟨ho, hk⟩ := hone_of hone j f hj
  have hjl : j < fs.size := (Array.getElem?_eq_some_iff.1 hj).1
  have hjc : j < cs.length := by omega
  have h1 := hf j f hj
  rw [ho, hk, List.drop_eq_getElem_cons hjc] at h1
  have hys : ys[j]? = some (ys[j]'(by omega)) := List.getElem?_eq_getElem (by omega)
  exact ⟨cs[j], _, n, List.getElem?_eq_getElem hjc, hys, by rw [← hys, ← h1]; rfl⟩
end
section
variable {α : Type} {l : List α}
theorem list1 {a : α} (hl : l.length = 1) (h0 : l[0]? = some a) : l = [a] := by
  match l, hl with
  | [x], _ => simpa using h0
theorem list2 {a b : α} (hl : l.length = 2) (h0 : l[0]? = some a) (h1 : l[1]? = some b) : l = [a, b] := by
  match l, hl with
  | [x, y], _ => simp at h0 h1; rw [h0, h1]
theorem list3 {a b c : α} (hl : l.length = 3) (h0 : l[0]? = some a) (h1 : l[1]? = some b) (h2 : l[2]? = some c) : l = [a, b, c] := by
  match l, hl with
  | [x, y, z], _ => simp at h0 h1 h2; rw [h0, h1, h2]
theorem list4 {a b c d : α} (hl : l.length = 4) (h0 : l[0]? = some a) (h1 : l[1]? = some b) (h2 : l[2]? = some c) (h3 : l[3]? = some d) : l = [a, b, c, d] := by
  match l, hl with
  | [x, y, z, u], _ => simp at h0 h1 h2 h3; rw [h0, h1, h2, h3]
theorem list6 {a b c d e f : α} (hl : l.length = 6) (h0 : l[0]? = some a) (h1 : l[1]? = some b) (h2 : l[2]? = some c) (h3 : l[3]? = some d) (h4 : l[4]? = some e) (h5 : l[5]? = some f) : l = [a, b, c, d, e, f] := by
  match l, hl with
  | [x, y, z, u, v, t], _ => simp at h0 h1 h2 h3 h4 h5; rw [h0, h1, h2, h3, h4, h5]
end
end Go.Proofs.Ytebgcemglicjiaa

/- The program's plain structs, as Lean has them here: their cells in order. -/
namespace Go.Proofs.Ytebgcemglicjiaa
open Go.RowKit

structure Mark where
  Len : Int
  Dist : Int
  Byte : Int
def Mark.cells (m : Mark) : List Value := [.int .i64 m.Len, .int .i64 m.Dist, .int .u8 m.Byte]
def Mark.ok (m : Mark) : Prop := (Lit.int .i64 m.Len).wf = true ∧ (Lit.int .i64 m.Dist).wf = true ∧ (Lit.int .u8 m.Byte).wf = true
structure Piece where
  Val : Int
  Width : Int
def Piece.cells (m : Piece) : List Value := [.int .u64 m.Val, .int .i64 m.Width]
def Piece.ok (m : Piece) : Prop := (Lit.int .u64 m.Val).wf = true ∧ (Lit.int .i64 m.Width).wf = true
structure OpD where
  Kind : Int
  At : Int
  Text : ByteArray
def OpD.cells (m : OpD) : List Value := [.int .i64 m.Kind, .int .i64 m.At, .string m.Text]
def OpD.ok (m : OpD) : Prop := (Lit.int .i64 m.Kind).wf = true ∧ (Lit.int .i64 m.At).wf = true ∧ m.Text.size ≤ maxLen
structure PutD where
  At : Int
  Text : ByteArray
def PutD.cells (m : PutD) : List Value := [.int .i64 m.At, .string m.Text]
def PutD.ok (m : PutD) : Prop := (Lit.int .i64 m.At).wf = true ∧ m.Text.size ≤ maxLen
structure BlobD where
  Kind : Int
  Ino : Int
  Nth : Int
  Text : ByteArray
def BlobD.cells (m : BlobD) : List Value := [.int .i64 m.Kind, .int .i64 m.Ino, .int .i64 m.Nth, .string m.Text]
def BlobD.ok (m : BlobD) : Prop := (Lit.int .i64 m.Kind).wf = true ∧ (Lit.int .i64 m.Ino).wf = true ∧ (Lit.int .i64 m.Nth).wf = true ∧ m.Text.size ≤ maxLen
structure PlaceD where
  Cell : Int
  Nth : Int
def PlaceD.cells (m : PlaceD) : List Value := [.int .i64 m.Cell, .int .i64 m.Nth]
def PlaceD.ok (m : PlaceD) : Prop := (Lit.int .i64 m.Cell).wf = true ∧ (Lit.int .i64 m.Nth).wf = true
structure EntD where
  Name : ByteArray
  Ino : Int
def EntD.cells (m : EntD) : List Value := [.string m.Name, .int .i64 m.Ino]
def EntD.ok (m : EntD) : Prop := m.Name.size ≤ maxLen ∧ (Lit.int .i64 m.Ino).wf = true
end Go.Proofs.Ytebgcemglicjiaa

/- Marks and what they expand to: plain lists of bytes. -/
namespace Go.Proofs.Ytebgcemglicjiaa
open Go.RowKit

def Mark.isByte (m : Mark) : Prop := m.Len = 0 ∧ m.Dist = 0
def Mark.isCopy (m : Mark) : Prop := 3 ≤ m.Len ∧ m.Len ≤ 66 ∧ 1 ≤ m.Dist ∧ m.Byte = 0
instance (m : Mark) : Decidable m.isByte := by unfold Mark.isByte; exact inferInstance
instance (m : Mark) : Decidable m.isCopy := by unfold Mark.isCopy; exact inferInstance
def markE (m : Mark) : Int := if m.isByte ∨ m.isCopy then 0 else 4
/-- The first n bytes of what lies 'dist' back, over and over. -/
def copied (out : List Int) (dist n : Nat) : List Int := (List.range n).map fun i => out.getD (out.length - dist + i % dist) 0
def more (out : List Int) (m : Mark) : List Int := if m.Len = 0 then [m.Byte] else copied out m.Dist.toNat m.Len.toNat
/-- What a list of marks appends to 'out', and what is wrong with it. -/
def expF (out : List Int) : List Mark → List Int × Int
  | [] => (out, 0)
  | m :: r => if markE m ≠ 0 then ([], markE m) else if out.length < m.Dist then ([], 8) else if 512 < out.length + (more out m).length then ([], 2) else expF (out ++ more out m) r
theorem copied_length (out : List Int) (d n : Nat) : (copied out d n).length = n := by simp [copied]
theorem copied_succ (out : List Int) (d n : Nat) : copied out d (n + 1) = copied out d n ++ [out.getD (out.length - d + n % d) 0] := by
  simp [copied, List.range_succ]
/-- The code's way: each further byte is the one 'dist' back in all that there is by then. -/
theorem copied_back (out : List Int) (d n : Nat) (h0 : 0 < d) (hd : d ≤ out.length) : (out ++ copied out d n)[out.length + n - d]? = some (out.getD (out.length - d + n % d) 0) := by
  by_cases h : n < d
  · rw [Nat.mod_eq_of_lt h, List.getElem?_append_left (by omega), show out.length + n - d = out.length - d + n by omega, List.getD_eq_getElem?_getD]
    rw [List.getElem?_eq_getElem (by omega)]; rfl
  · rw [List.getElem?_append_right (by omega), show out.length + n - d - out.length = n - d by omega]
    simp only [copied, List.getElem?_map]
    rw [List.getElem?_range (by omega)]
    simp only [Option.map_some]
    rw [show n % d = (n - d) % d by rw [← Nat.mod_eq_sub_mod (by omega)]]
theorem expF_dist {O : List Int} {m : Mark} {r : List Mark} (h : markE m = 0) (hd : O.length < m.Dist) : expF O (m :: r) = ([], 8) := by
  rw [expF, if_neg (by omega), if_pos hd]
theorem expF_large {O : List Int} {m : Mark} {r : List Mark} (h : markE m = 0) (hd : ¬ (O.length : Int) < m.Dist) (hl : 512 < O.length + (more O m).length) : expF O (m :: r) = ([], 2) := by
  rw [expF, if_neg (by omega), if_neg hd, if_pos hl]
theorem expF_go {O : List Int} {m : Mark} {r : List Mark} (h : markE m = 0) (hd : ¬ (O.length : Int) < m.Dist) (hl : ¬ 512 < O.length + (more O m).length) : expF O (m :: r) = expF (O ++ more O m) r := by
  rw [expF, if_neg (by omega), if_neg hd, if_neg hl]
theorem more_byte (O : List Int) (d b : Int) : more O ⟨0, d, b⟩ = [b] := by simp [more]
theorem more_copy (O : List Int) (a d b : Int) (h : a ≠ 0) : more O ⟨a, d, b⟩ = copied O d.toNat a.toNat := by simp [more, h]
theorem mark_cases {a d b : Int} (h : markE ⟨a, d, b⟩ = 0) : (a = 0 ∧ d = 0) ∨ (3 ≤ a ∧ a ≤ 66 ∧ 1 ≤ d ∧ b = 0) := by
  by_cases c : (Mark.mk a d b).isByte ∨ (Mark.mk a d b).isCopy
  · exact c
  · unfold markE at h; rw [if_neg c] at h; simp at h
end Go.Proofs.Ytebgcemglicjiaa

namespace Go.Proofs.Ytebgcemglicjiaa
open Go.RowKit

/-- A number out of its bits, the lowest first. -/
def horn : List Int → Int
  | [] => 0
  | x :: r => x + 2 * horn r
/-- The lowest k bits of c, the highest of them first. -/
def cword (c : Int) : Nat → List Int
  | 0 => []
  | k + 1 => (c / 2 ^ k % 2) :: cword c k
theorem cword_length (c : Int) : ∀ k, (cword c k).length = k
  | 0 => rfl
  | k + 1 => by simp [cword, cword_length c k]
theorem cword_bit (c : Int) : ∀ k, ∀ x ∈ cword c k, 0 ≤ x ∧ x ≤ 1
  | 0 => fun x h => by simp [cword] at h
  | k + 1 => fun x h => by
    simp only [cword, List.mem_cons] at h
    rcases h with rfl | h
    · omega
    · exact cword_bit c k x h
theorem horn_cword (c : Nat) : ∀ k, horn (cword c k) = flipTo c k
  | 0 => rfl
  | k + 1 => by
    simp only [cword, horn, flipTo, horn_cword c k]
    have e : ((c : Int) / 2 ^ k % 2) = ((c / 2 ^ k % 2 : Nat) : Int) := by simp
    rw [e]; omega
theorem horn_bd : ∀ l : List Int, (∀ x ∈ l, 0 ≤ x ∧ x ≤ 1) → 0 ≤ horn l ∧ horn l < 2 ^ l.length
  | [], _ => by simp [horn]
  | x :: r, h => by
    have h1 := h x (by simp)
    have ih := horn_bd r (fun y hy => h y (by simp [hy]))
    simp only [horn, List.length_cons, Int.pow_succ]
    omega
def SgOk (l : List Int) (s : Int) : Prop := 0 ≤ s ∧ s < l.length ∧ l.getD s.toNat 0 ≠ 0
open Classical in
noncomputable def sgsE (l : List Int) : List Int → Int
  | [] => 0
  | s :: r => if SgOk l s then sgsE l r else 1
noncomputable def cwE (l signs : List Int) : Int := if canE l ≠ 0 then canE l else sgsE l signs
def wd (l : List Int) (s : Int) : Int := l.getD s.toNat 0
def cd (l : List Int) (s : Int) : Int := (canL l l.length).getD s.toNat 0
def sgP (l : List Int) (s : Int) : Piece := ⟨flip (cd l s).toNat (wd l s), wd l s⟩
def sgB (l : List Int) (s : Int) : List Int := cword (cd l s) (wd l s).toNat
noncomputable def cwP (l signs : List Int) : List Piece := if cwE l signs = 0 then signs.map (sgP l) else []
noncomputable def cwB (l signs : List Int) : List Int := if cwE l signs = 0 then signs.flatMap (sgB l) else []
noncomputable def cwW (l signs : List Int) : List Int := if cwE l signs = 0 then signs.map (wd l) else []
theorem sgs_to (l : List Int) : ∀ signs : List Int, ∃ J, J ≤ signs.length ∧ (∀ i, i < J → ∃ s, signs[i]? = some s ∧ SgOk l s) ∧ (J < signs.length → ∃ s, signs[J]? = some s ∧ ¬ SgOk l s) ∧ (J = signs.length → sgsE l signs = 0) ∧ (J < signs.length → sgsE l signs = 1)
  | [] => ⟨0, Nat.le_refl _, fun i hi => by omega, fun h => by simp at h, fun _ => rfl, fun h => by simp at h⟩
  | s :: r => by
    by_cases h : SgOk l s
    · obtain ⟨J, a, b, c, d, e⟩ := sgs_to l r
      refine ⟨J + 1, by simp; omega, fun i hi => ?_, fun hj => ?_, fun hj => ?_, fun hj => ?_⟩
      · match i with
        | 0 => exact ⟨s, rfl, h⟩
        | i + 1 => exact b i (by omega)
      · exact c (by simpa using hj)
      · simp only [sgsE, if_pos h]; exact d (by simpa using hj)
      · simp only [sgsE, if_pos h]; exact e (by simpa using hj)
    · exact ⟨0, by simp, fun i hi => by omega, fun _ => ⟨s, rfl, h⟩, fun hj => by simp at hj, fun _ => by simp only [sgsE, if_neg h]⟩
theorem cw_can {l signs : List Int} (h : canE l ≠ 0) : cwE l signs = canE l ∧ cwP l signs = [] ∧ cwB l signs = [] ∧ cwW l signs = [] := by
  have e : cwE l signs = canE l := if_pos h
  exact ⟨e, by unfold cwP; rw [e, if_neg h], by unfold cwB; rw [e, if_neg h], by unfold cwW; rw [e, if_neg h]⟩
theorem cw_bad {l signs : List Int} (h : canE l = 0) (h2 : sgsE l signs = 1) : cwE l signs = 1 ∧ cwP l signs = [] ∧ cwB l signs = [] ∧ cwW l signs = [] := by
  have e : cwE l signs = 1 := by unfold cwE; rw [if_neg (by simp [h]), h2]
  exact ⟨e, by unfold cwP; rw [e]; rfl, by unfold cwB; rw [e]; rfl, by unfold cwW; rw [e]; rfl⟩
theorem cw_ok {l signs : List Int} (h : canE l = 0) (h2 : sgsE l signs = 0) : cwE l signs = 0 ∧ cwP l signs = signs.map (sgP l) ∧ cwB l signs = signs.flatMap (sgB l) ∧ cwW l signs = signs.map (wd l) := by
  have e : cwE l signs = 0 := by unfold cwE; rw [if_neg (by simp [h]), h2]
  exact ⟨e, by unfold cwP; rw [e]; rfl, by unfold cwB; rw [e]; rfl, by unfold cwW; rw [e]; rfl⟩
theorem cw_cases (l signs : List Int) : (cwE l signs = 0 ∧ canE l = 0 ∧ ∀ s ∈ signs, SgOk l s) ∨ (cwE l signs ≠ 0) := by
  by_cases h : canE l = 0
  · obtain ⟨J, a, b, c, d, e⟩ := sgs_to l signs
    by_cases hj : J = signs.length
    · refine .inl ⟨(cw_ok h (d hj)).1, h, fun s hs => ?_⟩
      obtain ⟨i, hi, rfl⟩ := List.mem_iff_getElem.1 hs
      obtain ⟨s', h1, h2⟩ := b i (by omega)
      rw [List.getElem?_eq_getElem hi] at h1
      injection h1 with h1
      rw [h1]; exact h2
    · right; rw [(cw_bad h (e (by omega))).1]; decide
  · right; rw [(cw_can h).1]; exact h
theorem fill_all {l : List Int} (h : canE l = 0) : ∀ x ∈ l, 0 ≤ x ∧ x ≤ 15 := by
  by_cases hf : fillE l = 0
  · exact (fillE_zero hf).2
  · rw [(can_fill hf).1] at h; exact absurd h hf
theorem wd_bd {l : List Int} (h : canE l = 0) {s : Int} (hs : SgOk l s) : 1 ≤ wd l s ∧ wd l s ≤ 15 := by
  obtain ⟨a, b, c⟩ := hs
  have hi : s.toNat < l.length := by omega
  have e : l.getD s.toNat 0 = l[s.toNat] := by simp [List.getD_eq_getElem?_getD, List.getElem?_eq_getElem hi]
  have := fill_all h _ (List.getElem_mem hi)
  unfold wd
  rw [e] at c ⊢
  omega
theorem canL_at (l : List Int) : ∀ (k i : Nat) (x : Int), i < k → l[i]? = some x → k ≤ l.length → (canL l k)[i]? = some (codeAt l i x)
  | 0, i, x, h, _, _ => by omega
  | k + 1, i, x, h, hx, hk => by
    have ek := List.getElem?_eq_getElem (l := l) (i := k) (by omega)
    rw [canL_succ ek]
    by_cases hi : i < k
    · rw [List.getElem?_append_left (by rw [canL_length]; exact hi)]
      exact canL_at l k i x hi hx (by omega)
    · obtain rfl : i = k := by omega
      rw [List.getElem?_append_right (by rw [canL_length]; omega), canL_length]
      rw [ek] at hx; injection hx with hx
      simp [hx]
theorem cd_bd {l : List Int} (h : canE l = 0) {k : Nat} {x : Int} (hx : l[k]? = some x) : (canL l l.length)[k]? = some (cd l k) ∧ wd l k = x ∧ 0 ≤ cd l k ∧ cd l k ≤ 32768 * 320 := by
  have hk : k < l.length := (List.getElem?_eq_some_iff.1 hx).1
  have hc := canL_at l l.length k x hk hx (Nat.le_refl _)
  have e1 : cd l k = codeAt l k x := by unfold cd; simp [List.getD_eq_getElem?_getD, hc]
  have e2 : wd l k = x := by unfold wd; simp [List.getD_eq_getElem?_getD, hx]
  have hall := fill_all h
  have hxb := hall x (by rw [List.mem_iff_getElem?]; exact ⟨k, hx⟩)
  have hfe : fillE l = 0 := by
    by_cases hf : fillE l = 0
    · exact hf
    · rw [(can_fill hf).1] at h; exact absurd h hf
  have hn := (fillE_zero hfe).1
  have hs : fsum l ≤ 32768 := by
    by_cases ho : 32768 < fillV l
    · rw [(can_over hfe ho).1] at h; cases h
    · have : fillV l = fsum l := by
        unfold fillE at hfe
        unfold fillV
        by_cases h3 : 320 < l.length
        · rw [if_pos h3] at hfe; cases hfe
        · rw [if_neg h3] at hfe ⊢
          split at hfe
          · rename_i hh; rw [if_pos hh]
          · cases hfe
      omega
  refine ⟨by rw [hc, e1], e2, by rw [e1]; exact codeAt_nonneg _ _ _, ?_⟩
  rw [e1]
  unfold codeAt
  split
  · rename_i h0
    have hk1 := low_kraft x h0 hxb.2 l hall
    have h1 := cntW_bd x (l.take k)
    have h2 := cntW_bd x l
    have h3 := lowW_nonneg x l
    have hp := pow15 hxb.1 hxb.2
    have h4 : 1 * (lowW x l + cntW x l) ≤ 2 ^ (15 - x).toNat * (lowW x l + cntW x l) := Int.mul_le_mul_of_nonneg_right hp.1 (by omega)
    have h5 : (l.take k).length ≤ 320 := by rw [List.length_take]; omega
    omega
  · omega
theorem sg_nat {l : List Int} {s : Int} (h : SgOk l s) : ∃ k : Nat, s = k ∧ k < l.length ∧ wd l s ≠ 0 := ⟨s.toNat, by have := h.1; omega, by have := h.1; have := h.2.1; omega, h.2.2⟩
theorem sg_no {l : List Int} {s : Int} (h : ¬ SgOk l s) : s < 0 ∨ (0 ≤ s ∧ (l.length : Int) ≤ s) ∨ ∃ k : Nat, s = k ∧ k < l.length ∧ l[k]? = some 0 := by
  by_cases h1 : s < 0
  · exact .inl h1
  · by_cases h2 : s < l.length
    · refine .inr (.inr ⟨s.toNat, by omega, by omega, ?_⟩)
      have hk : s.toNat < l.length := by omega
      have : l.getD s.toNat 0 = 0 := Classical.byContradiction fun h3 => h ⟨by omega, h2, h3⟩
      rw [List.getElem?_eq_getElem hk]
      simpa [List.getD_eq_getElem?_getD, List.getElem?_eq_getElem hk] using this
    · exact .inr (.inl ⟨by omega, by omega⟩)
theorem sgP_take {l signs : List Int} {i : Nat} {s : Int} (h : signs[i]? = some s) : ((signs.take (i + 1)).map (sgP l)).flatMap Piece.cells = ((signs.take i).map (sgP l)).flatMap Piece.cells ++ [.int .u64 (sgP l s).Val, .int .i64 (sgP l s).Width] := by
  rw [List.take_add_one, h]; simp [Piece.cells]
end Go.Proofs.Ytebgcemglicjiaa
