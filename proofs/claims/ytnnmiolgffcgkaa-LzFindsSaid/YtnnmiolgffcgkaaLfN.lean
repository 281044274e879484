/- lz's chains: what the map holds. -/
import Derived.Test.YtnnmiolgffcgkaaLfM
namespace Go.Proofs.Ytnnmiolgffcgkaa
open Go.RowKit Go.PlainAid Go.WideMaps Go.WideElems Go.MapKept
open Go.ChangeMaps (setBlock heap_setBlock_same heap_setBlock_other)

instance (s : ByteArray) (k i n : Nat) : Decidable (same s k i n) := by unfold same; infer_instance
/-- The places before i at which the three bytes of k begin. -/
def occ (s : ByteArray) (i k : Nat) : List Nat := (List.range i).filter (fun j => decide (same s j k 3))
def ocV (s : ByteArray) (i k : Nat) : List Value := (occ s i k).map (fun j : Nat => Value.int .i64 (j : Int))
theorem mem_occ {s : ByteArray} {i k j : Nat} : j ∈ occ s i k ↔ j < i ∧ same s j k 3 := by simp [occ]
theorem occ_yes {s : ByteArray} {i k : Nat} (h : same s i k 3) : occ s (i + 1) k = occ s i k ++ [i] := by simp [occ, List.range_succ, h]
theorem occ_no {s : ByteArray} {i k : Nat} (h : ¬ same s i k 3) : occ s (i + 1) k = occ s i k := by simp [occ, List.range_succ, h]
theorem same_symm {s : ByteArray} {a b n : Nat} (h : same s a b n) : same s b a n := fun j hj => (h j hj).symm
theorem same_trans {s : ByteArray} {a b c n : Nat} (h : same s a b n) (k : same s b c n) : same s a c n := fun j hj => (h j hj).trans (k j hj)
theorem occ_same {s : ByteArray} {i a b : Nat} (h : same s a b 3) : occ s i a = occ s i b := by
  unfold occ
  congr 1
  funext j
  exact decide_eq_decide.2 ⟨fun x => same_trans x h, fun x => same_trans x (same_symm h)⟩
theorem occ_len (s : ByteArray) (i k : Nat) : (occ s i k).length ≤ i := by
  have := List.length_filter_le (fun j => decide (same s j k 3)) (List.range i)
  rw [List.length_range] at this
  exact this
theorem ocV_yes {s : ByteArray} {i k : Nat} (h : same s i k 3) : ocV s (i + 1) k = ocV s i k ++ [.int .i64 (i : Int)] := by unfold ocV; rw [occ_yes h]; simp
theorem ocV_no {s : ByteArray} {i k : Nat} (h : ¬ same s i k 3) : ocV s (i + 1) k = ocV s i k := by unfold ocV; rw [occ_no h]
theorem ocV_same {s : ByteArray} {i a b : Nat} (h : same s a b 3) : ocV s i a = ocV s i b := by unfold ocV; rw [occ_same h]

def Ent (s : ByteArray) (B i : Nat) (w : World) (e : MapEntry) : Prop := ∃ k, k < i ∧ e.key = tri s k ∧ w.ownsRow B 3 1 e.val (occ s i k).length (ocV s i k)
structure MapI (s : ByteArray) (B r i : Nat) (w : World) (es : Array MapEntry) (clock : Nat) : Prop where
  here : w.heap[r]? = some (.map es clock)
  rlt : r < B
  ble : B ≤ w.heap.size
  st : Stamped es clock
  ents : ∀ e ∈ es.toList, Ent s B i w e
  has : ∀ k, k < i → ∃ e ∈ es.toList, e.key = tri s k
  apart : ∀ (j1 j2 : Nat) (e1 e2 : MapEntry), es[j1]? = some e1 → es[j2]? = some e2 → j1 ≠ j2 → e1.val.ownBlock ≠ e2.val.ownBlock
theorem MapI.kept {s : ByteArray} {B r i : Nat} {w w' : World} {es : Array MapEntry} {clock : Nat} (h : MapI s B r i w es clock) {row : Option Nat} (hg : w.grownBy w' row) (hr : ∀ k, row = some k → k < B ∧ k ≠ r) : MapI s B r i w' es clock :=
  { here := by
      rw [hg.block r (Nat.lt_of_lt_of_le h.rlt h.ble) (fun e => (hr r e.symm).2 rfl)]; exact h.here
    rlt := h.rlt
    ble := Nat.le_trans h.ble hg.size
    st := h.st
    ents := fun e he => by
      obtain ⟨k, h1, h2, h3⟩ := h.ents e he
      refine ⟨k, h1, h2, h3.kept hg ?_⟩
      cases hv : e.val.ownBlock with
      | none => exact .inl rfl
      | some g => exact .inr (fun e2 => by have := (h3.lt g hv).1; have := (hr g e2.symm).1; omega)
    has := h.has
    apart := h.apart }
theorem MapI.keyed {s : ByteArray} {B r i : Nat} {w : World} {es : Array MapEntry} {clock : Nat} (h : MapI s B r i w es clock) : ∀ x ∈ es.toList, ∃ l, keyOf Try.prog 138 x.key = some l := fun x hx => by
  obtain ⟨k, _, h2, _⟩ := h.ents x hx
  rw [h2]; exact tri_key s k
theorem zero_ints : ∀ u : World, (zeroValue 32).run Try.prog u = .ok (.slice none 0 0) u := fun u => by
  have h : (Try.prog.info? 32).map (fun i => i.zero) = some (some (.slice none 0 0)) := by kernel_rfl
  obtain ⟨i, hi, hz⟩ := Option.map_eq_some_iff.1 h
  simp [zeroValue, typeInfo, hi, hz]
theorem tri_map : Try.prog.underlying 136 = some (.map 138 32) := by kernel_rfl
theorem occ_none {s : ByteArray} {i : Nat} (h : ∀ k, k < i → ¬ same s k i 3) : occ s i i = [] := by
  cases ho : occ s i i with
  | nil => rfl
  | cons a l =>
    have hm : a ∈ occ s i i := by rw [ho]; exact List.mem_cons_self
    have := mem_occ.1 hm
    exact absurd this.2 (h a this.1)
theorem MapI.look {s : ByteArray} {B r i : Nat} {w : World} {es : Array MapEntry} {clock : Nat} (h : MapI s B r i w es clock) :
    ∃ v, (Instr.lookup 136 (.map (some r)) (tri s i) false).run Try.prog w = .ok v w ∧ w.ownsRow B 3 1 v (occ s i i).length (ocV s i i) := by
  obtain ⟨kl, hkl⟩ := tri_key s i
  rcases look_any triKey.law tri_map zero_ints h.here h.keyed hkl with ⟨h1, h2⟩ | ⟨j, e0, h1, h2, h3⟩
  · refine ⟨_, h2, ?_⟩
    have hn : occ s i i = [] := occ_none fun k hk hs => by
      obtain ⟨e, he1, he2⟩ := h.has k hk
      exact h1 e he1 (he2.trans (tri_eq.2 hs))
    unfold ocV
    rw [hn]
    exact World.ownsRow_nil _ _ _ _
  · refine ⟨_, h3, ?_⟩
    obtain ⟨k, k1, k2, k3⟩ := h.ents e0 (List.mem_of_getElem? (by simpa using h1))
    have hs := tri_eq.1 (h2.symm.trans k2)
    rw [occ_same hs, ocV_same hs]
    exact k3
theorem grown_setBlock {w : World} {b : Nat} {es : Array MapEntry} {clock : Nat} (hb : w.heap[b]? = some (.map es clock)) (o : Obj) : w.grownBy (setBlock w b o) (some b) :=
  ⟨rfl, rfl, rfl, by simp [setBlock], fun k _ hne => heap_setBlock_other hb o (fun e => hne (by rw [e]))⟩
end Go.Proofs.Ytnnmiolgffcgkaa
