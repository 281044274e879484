/- What comes in as memory, read as lists: small lemmas of our own, over any program. No condition. -/
import Derived.Test.YtgidfmdbaimcnaaDoorRows
import Derived.WalkKit
import Derived.ProofKit
import Derived.OpenShut
import Derived.ShutString
import Derived.ChangeOld
import Derived.Below
import Derived.SizedLaws
import Derived.Carry
import Derived.Deep.Slices
import Derived.Deep.Fields
import Derived.Deep.QuietTactic
import Derived.BigQuiet
import Derived.Handy
namespace Go.Proofs.YtgidfmdbaimcnaaDoor
open Go.ChangeShapes Go.WideShapes Go.ChangeAt Go.RowKit Go.Deep
open Go.ChangeMaps (open_string shut_string)

/-- A slice value '.slice A n c' whose n elements, k cells each, read as the list xs, all below block B. -/
structure RowsIn {α : Type} (w : World) (B : Nat) (A : Option Addr) (n c : Nat) (enc : α → List Value) (k : Nat) (xs : List α) : Prop where
  len : xs.length = n
  le : n ≤ c
  top : c ≤ maxLen
  at_ : ∀ (i : Nat) (x : α), xs[i]? = some x → ∃ b o, A = some ⟨b, o, none⟩ ∧ b < B ∧ ∀ (j : Nat) (u : Value), (enc x)[j]? = some u → w.cell? ⟨b, o + i * k + j, none⟩ = some u

section
variable {α : Type} {w w' : World} {B B' n c k : Nat} {A : Option Addr} {enc : α → List Value} {xs : List α}
theorem RowsIn.keep (h : RowsIn w B A n c enc k xs) (hk : ∀ p : Addr, p.block < B → w'.cell? p = w.cell? p) : RowsIn w' B A n c enc k xs :=
  ⟨h.len, h.le, h.top, fun i x hx => by
    obtain ⟨b, o, e, hb, hc⟩ := h.at_ i x hx
    exact ⟨b, o, e, hb, fun j u hu => (hk ⟨b, _, none⟩ hb).trans (hc j u hu)⟩⟩
theorem RowsIn.below (h : RowsIn w B A n c enc k xs) (hb : Below B w w') : RowsIn w' B A n c enc k xs := h.keep fun _ hp => hb.cell hp
theorem RowsIn.more (h : RowsIn w B A n c enc k xs) (hB : B ≤ B') : RowsIn w B' A n c enc k xs :=
  ⟨h.len, h.le, h.top, fun i x hx => by
    obtain ⟨b, o, e, hb, hc⟩ := h.at_ i x hx
    exact ⟨b, o, e, by omega, hc⟩⟩
theorem RowsIn.drew (h : RowsIn w B A n c enc k xs) : RowsIn w.drew B A n c enc k xs := h.keep fun _ _ => rfl
theorem RowsIn.drewN (h : RowsIn w B A n c enc k xs) (m : Nat) : RowsIn (w.drewN m) B A n c enc k xs := h.keep fun _ _ => rfl
theorem RowsIn.alloc (h : RowsIn w B A n c enc k xs) (hB : B ≤ w.heap.size) (o : Obj) : RowsIn (w.alloc o) B A n c enc k xs := h.keep fun p hp => World.cell?_alloc_lt w o p (by omega)
/-- One cell an element: the cell of element i. -/
theorem RowsIn.one {f : α → Value} (h : RowsIn w B A n c (fun x => [f x]) 1 xs) {i : Nat} {x : α} (hx : xs[i]? = some x) :
    ∃ b o, A = some ⟨b, o, none⟩ ∧ b < B ∧ w.cell? ⟨b, o + i, none⟩ = some (f x) := by
  obtain ⟨b, o, e, hb, hc⟩ := h.at_ i x hx
  exact ⟨b, o, e, hb, by simpa using hc 0 _ rfl⟩
end

/-- Behind a call that makes memory of its own: the old cells read as before. -/
theorem old_cells {W w1 : World} (hb : Below W.heap.size W w1) : (∀ b o, b < W.heap.size → w1.cell? ⟨b, o, none⟩ = W.cell? ⟨b, o, none⟩) ∧ (∀ b o, b < W.heap.size → w1.frozen? ⟨b, o, none⟩ = W.frozen? ⟨b, o, none⟩) :=
  ⟨fun b o h => hb.cell (p := ⟨b, o, none⟩) h, fun b o h => hb.frozen (p := ⟨b, o, none⟩) h⟩
theorem ret_i1 {k : IntKind} {a b : Int} (h : a = b) : Ending.returned (.int k a) = .returned (.int k b) := by rw [h]
theorem ret_i2 {k k' : IntKind} {a b a' b' : Int} (h : a = b) (h' : a' = b') : Ending.returned (.tuple #[.int k a, .int k' a']) = .returned (.tuple #[.int k b, .int k' b']) := by rw [h, h']
theorem ret_i3 {k k' k'' : IntKind} {a b a' b' a'' b'' : Int} (h : a = b) (h' : a' = b') (h'' : a'' = b'') : Ending.returned (.tuple #[.int k a, .int k' a', .int k'' a'']) = .returned (.tuple #[.int k b, .int k' b', .int k'' b'']) := by rw [h, h', h'']
theorem ret_s1 {a b : ByteArray} (h : a = b) : Ending.returned (.string a) = .returned (.string b) := by rw [h]
theorem ret_s2 {k : IntKind} {a b : ByteArray} {a' b' : Int} (h : a = b) (h' : a' = b') : Ending.returned (.tuple #[.string a, .int k a']) = .returned (.tuple #[.string b, .int k b']) := by rw [h, h']
theorem val_int {k : IntKind} {a b : Int} (h : a = b) : (Value.int k a) = .int k b := by rw [h]

theorem exists_list {α : Type} {Q : Nat → α → Prop} : ∀ {n : Nat}, (∀ i, i < n → ∃ x, Q i x) → ∃ xs : List α, xs.length = n ∧ ∀ (i : Nat) (x : α), xs[i]? = some x → Q i x := by
  intro n
  induction n with
  | zero => exact fun _ => ⟨[], rfl, fun i x h => by simp at h⟩
  | succ n ih =>
    intro h
    obtain ⟨xs, hl, hq⟩ := ih (fun i hi => h i (by omega))
    obtain ⟨y, hy⟩ := h n (by omega)
    refine ⟨xs ++ [y], by simp [hl], fun i x hx => ?_⟩
    by_cases hi : i < n
    · rw [List.getElem?_append_left (by omega)] at hx
      exact hq i x hx
    · have hi' : i = n := by
        have := (List.getElem?_eq_some_iff.1 hx).1
        simp at this
        omega
      subst hi'
      rw [List.getElem?_append_right (by omega), hl] at hx
      simp at hx
      subst hx
      exact hy

section
variable {H : Type} {enc : TypeId × Value → H} {P : Program} {w : World} {base : Nat} {spare : Nat → Bool} {held : Bool}

theorem block_of_add (a : Addr) (n : Nat) : (a.add n).block = a.block := by unfold Addr.add; split <;> rfl
theorem add_of_add (a : Addr) (i j : Nat) : (a.add i).add j = a.add (i + j) := by
  unfold Addr.add
  by_cases hi : i = 0 <;> by_cases hj : j = 0 <;> simp [hi, hj, Nat.add_assoc]
theorem add_form (b o n : Nat) : (Addr.add ⟨b, o, none⟩ n) = ⟨b, o + n, none⟩ := by
  unfold Addr.add
  split
  · rename_i h; subst h; rfl
  · rfl

/-- A slice that came in, its elements read one by one by 'hel': a list. -/
theorem open_rows {t e : TypeId} {α : Type} {cells : α → List Value} {ok : α → Prop} {A : Option Addr} {n c k fuel : Nat} {x : DataW H × List MemPlace}
    (ht : P.underlying t = some (.slice e)) (hk : P.cellsOf e = k) (hk0 : 0 < k)
    (hel : ∀ (m : Nat) (cs : List Value) (y : DataW H × List MemPlace), DataW.trod enc P w base spare held m e cs = some y → ∃ z : α, cs = cells z ∧ ok z)
    (h : DataW.trod enc P w base spare held fuel t [.slice A n c] = some x) :
    (∃ xs : List α, RowsIn w w.heap.size A n c cells k xs ∧ ∀ z ∈ xs, ok z) ∧
      ((A = none ∧ n = 0 ∧ c = 0 ∧ x.1 = .nil) ∨ ∃ elems sp, x.1 = .slice elems sp ∧ elems.length = n ∧ ((∀ b, spare b = true) → sp.length = c - n)) := by
  rcases open_slice ht h with ⟨hcs, hx⟩ | ⟨a, len, cap, m, n', D, Pl, hcs, hb, hl, hm, hmm, hx, hi⟩
  · simp only [List.cons.injEq, Value.slice.injEq, and_true] at hcs
    obtain ⟨rfl, rfl, rfl⟩ := hcs
    exact ⟨⟨[], ⟨rfl, Nat.le_refl _, Nat.zero_le _, fun i x hx => by simp at hx⟩, fun z hz => by simp at hz⟩, .inl ⟨rfl, rfl, rfl, by rw [hx]⟩⟩
  · simp only [List.cons.injEq, Value.slice.injEq, and_true] at hcs
    obtain ⟨rfl, rfl, rfl⟩ := hcs
    obtain ⟨b, o, s⟩ := a
    have hle : n ≤ m := by rw [hmm]; split <;> omega
    have one : ∀ i, i < n → ∃ z : α, ok z ∧ (cells z).length = k ∧ ∀ j u, (cells z)[j]? = some u → w.cell? (Addr.add ⟨b, o, s⟩ (i * k + j)) = some u := by
      intro i him
      obtain ⟨cs', hc, ht'⟩ := hi i (by omega)
      obtain ⟨z, rfl, hz⟩ := hel _ _ _ ht'
      obtain ⟨_, hcl, hat⟩ := World.cells?_some hc
      refine ⟨z, hz, by omega, fun j u hu => ?_⟩
      have hj : j < P.cellsOf e := by rw [← hcl]; exact (List.getElem?_eq_some_iff.1 hu).1
      have h1 := (hat j hj).trans hu
      rwa [hk, add_of_add] at h1
    have hs : 0 < n → s = none := by
      intro hn
      obtain ⟨z, _, hz, h1⟩ := one 0 hn
      have h0 := h1 0 _ (List.getElem?_eq_getElem (by omega))
      exact World.cell?_spot (a := ⟨b, o, s⟩) (by simpa [Addr.add] using h0)
    obtain ⟨xs, hlen, hq⟩ := exists_list (n := n) (Q := fun i (z : α) => ok z ∧ s = none ∧ b < w.heap.size ∧ ∀ j u, (cells z)[j]? = some u → w.cell? ⟨b, o + i * k + j, none⟩ = some u) (by
      intro i him
      obtain rfl : s = none := hs (by omega)
      obtain ⟨z, hz, hzl, h1⟩ := one i him
      have h0 := h1 0 _ (List.getElem?_eq_getElem (by omega))
      rw [add_form] at h0
      refine ⟨z, hz, rfl, World.block_lt_of_cell? w _ h0, fun j u hu => ?_⟩
      have := h1 j u hu
      rwa [add_form, ← Nat.add_assoc] at this)
    refine ⟨⟨xs, ⟨hlen, hl, hm, fun i z hz => ?_⟩, fun z hz => ?_⟩, .inr ⟨_, _, by rw [hx], by simp, ?_⟩⟩
    · obtain ⟨_, hs, hb, hc⟩ := hq i z hz
      exact ⟨b, o, by rw [hs], hb, hc⟩
    · obtain ⟨i, hi'⟩ := List.mem_iff_getElem?.1 hz
      exact (hq i z hi').1
    · intro hsp
      simp only [List.length_map, List.length_range]
      rw [hmm, if_pos (hsp _)]

/-- The same of a cell whose form is not yet known. -/
theorem open_rows_v {t e : TypeId} {α : Type} {cells : α → List Value} {ok : α → Prop} {v : Value} {k fuel : Nat} {x : DataW H × List MemPlace}
    (ht : P.underlying t = some (.slice e)) (hk : P.cellsOf e = k) (hk0 : 0 < k)
    (hel : ∀ (m : Nat) (cs : List Value) (y : DataW H × List MemPlace), DataW.trod enc P w base spare held m e cs = some y → ∃ z : α, cs = cells z ∧ ok z)
    (h : DataW.trod enc P w base spare held fuel t [v] = some x) :
    ∃ A n c, v = .slice A n c ∧ (∃ xs : List α, RowsIn w w.heap.size A n c cells k xs ∧ ∀ z ∈ xs, ok z) ∧
      ((A = none ∧ n = 0 ∧ c = 0 ∧ x.1 = .nil) ∨ ∃ elems sp, x.1 = .slice elems sp ∧ elems.length = n ∧ ((∀ b, spare b = true) → sp.length = c - n)) := by
  obtain ⟨A, n, c, rfl⟩ : ∃ A n c, v = .slice A n c := by
    rcases DataW.trod_slice ht h with ⟨hc, _⟩ | ⟨a, len, cap, _, _, _, _, hc, _⟩
    · simp only [List.cons.injEq, and_true] at hc; exact ⟨_, _, _, hc⟩
    · simp only [List.cons.injEq, and_true] at hc; exact ⟨_, _, _, hc⟩
  exact ⟨A, n, c, rfl, open_rows ht hk hk0 hel h⟩
/-- A struct's weights are its fields' weights. -/
theorem sized_agg {ts : List TypeId} {ds : List (DataW H)} (h : (DataW.weightsEach P ts ds).all (· ≤ reachBytes) = true) {j : Nat} {t : TypeId} {fs : Array Field} {parts : List (DataW H)} (ht : ts[j]? = some t) (hd : ds[j]? = some (.agg parts)) (hu : P.underlying t = some (.struct fs)) :
    (DataW.weightsEach P (fs.toList.map (·.type)) parts).all (· ≤ reachBytes) = true := by
  rw [List.all_eq_true]
  intro n hn
  exact List.all_eq_true.1 h _ (DataW.weights_mem_each ht hd n (by simpa [DataW.weights, hu] using hn))
/-- One-cell elements: an integer kind. -/
theorem el_int {k : IntKind} {t : TypeId} (ht : P.underlying t = some (.int k)) : ∀ (m : Nat) (cs : List Value) (y : DataW H × List MemPlace), DataW.trod enc P w base spare held m t cs = some y → ∃ z : Int, cs = [.int k z] ∧ (Lit.int k z).wf = true := by
  intro m cs y h
  obtain ⟨n, hc, _, hw⟩ := DataW.trod_int ht h
  exact ⟨n, hc, hw⟩
theorem el_bool {t : TypeId} (ht : P.underlying t = some .bool) : ∀ (m : Nat) (cs : List Value) (y : DataW H × List MemPlace), DataW.trod enc P w base spare held m t cs = some y → ∃ z : Bool, cs = [.bool z] ∧ True := by
  intro m cs y h
  obtain ⟨n, hc, _⟩ := DataW.trod_bool ht h
  exact ⟨n, hc, trivial⟩
theorem el_string {t : TypeId} (ht : P.underlying t = some .string) : ∀ (m : Nat) (cs : List Value) (y : DataW H × List MemPlace), DataW.trod enc P w base spare held m t cs = some y → ∃ z : ByteArray, cs = [.string z] ∧ z.size ≤ maxLen := by
  intro m cs y h
  obtain ⟨n, hc, _, hw⟩ := DataW.trod_string ht h
  exact ⟨n, hc, hw⟩
/-- A struct of one-cell fields: each field's cell, read by itself. -/
theorem el_fields {t : TypeId} {fs : Array Field} (ht : P.underlying t = some (.struct fs)) (hone : oneCellFields P fs = true) (hC : P.cellsOf t = fs.size) {m : Nat} {cs : List Value} {y : DataW H × List MemPlace}
    (h : DataW.trod enc P w base spare held m t cs = some y) :
    cs.length = fs.size ∧ ∃ ys : List (DataW H × List MemPlace), ys.length = fs.size ∧ y = (.agg (ys.map (·.1)), ys.flatMap (·.2)) ∧
      ∀ (j : Nat) (f : Field), fs[j]? = some f → ∃ (v : Value) (z : DataW H × List MemPlace) (n : Nat), cs[j]? = some v ∧ ys[j]? = some z ∧ DataW.trod enc P w base spare held n f.type [v] = some z := by
  obtain ⟨ys, n, _, hy, hl, hyl, hf⟩ := DataW.trod_struct ht h
  refine ⟨hl.trans hC, ys, hyl, hy, fun j f hj => ?_⟩
  obtain ⟨ho, hk⟩ := hone_of hone j f hj
  have hjl : j < fs.size := (Array.getElem?_eq_some_iff.1 hj).1
  have hjc : j < cs.length := by omega
  have h1 := hf j f hj
  rw [ho, hk, List.drop_eq_getElem_cons hjc] at h1
  have hys : ys[j]? = some (ys[j]'(by omega)) := List.getElem?_eq_getElem (by omega)
  exact ⟨cs[j], _, n, List.getElem?_eq_getElem hjc, hys, by rw [← hys, ← h1]; rfl⟩
end
section
variable {α : Type} {l : List α}
theorem list1 {a : α} (hl : l.length = 1) (h0 : l[0]? = some a) : l = [a] := by
  match l, hl with
  | [x], _ => simpa using h0
theorem list2 {a b : α} (hl : l.length = 2) (h0 : l[0]? = some a) (h1 : l[1]? = some b) : l = [a, b] := by
  match l, hl with
  | [x, y], _ => simp at h0 h1; rw [h0, h1]
theorem list3 {a b c : α} (hl : l.length = 3) (h0 : l[0]? = some a) (h1 : l[1]? = some b) (h2 : l[2]? = some c) : l = [a, b, c] := by
  match l, hl with
  | [x, y, z], _ => simp at h0 h1 h2; rw [h0, h1, h2]
theorem list4 {a b c d : α} (hl : l.length = 4) (h0 : l[0]? = some a) (h1 : l[1]? = some b) (h2 : l[2]? = some c) (h3 : l[3]? = some d) : l = [a, b, c, d] := by
  match l, hl with
  | [x, y, z, u], _ => simp at h0 h1 h2 h3; rw [h0, h1, h2, h3]
theorem list6 {a b c d e f : α} (hl : l.length = 6) (h0 : l[0]? = some a) (h1 : l[1]? = some b) (h2 : l[2]? = some c) (h3 : l[3]? = some d) (h4 : l[4]? = some e) (h5 : l[5]? = some f) : l = [a, b, c, d, e, f] := by
  match l, hl with
  | [x, y, z, u, v, t], _ => simp at h0 h1 h2 h3 h4 h5; rw [h0, h1, h2, h3, h4, h5]
end
end Go.Proofs.YtgidfmdbaimcnaaDoor
