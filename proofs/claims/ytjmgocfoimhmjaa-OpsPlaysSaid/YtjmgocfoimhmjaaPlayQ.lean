/- ops.Play: what its loop keeps: plain, and of memory. -/
import Derived.Test.YtjmgocfoimhmjaaWriteD
import Derived.Test.YtjmgocfoimhmjaaSyncW
namespace Go.Proofs.Ytjmgocfoimhmjaa
open Go.RowKit

theorem PlI.write {cs C : List ByteArray} {ws W : List PutD} {l : List OpD} {k : Nat} {oa : Int} {ot : ByteArray} (h : PlI cs ws l k C W) (ho : l[k]? = some ⟨1, oa, ot⟩) :
    (wrE C W oa ot = 0 ∧ PlI cs ws l (k + 1) (wrX C W oa ot) (wrY C W oa ot)) ∨ (wrE C W oa ot ≠ 0 ∧ pl cs ws l = (wrE C W oa ot, [], [])) := by
  by_cases hp : putE C.length oa ot.size = 0
  · by_cases h4 : W.length = 400
    · right
      have e := wrE_full h.right hp h4
      rw [e]
      exact ⟨by decide, h.full ho rfl hp h4⟩
    · left
      have e := wrE_ok h.right hp h4
      rw [(wr_good e).1, (wr_good e).2]
      exact ⟨e, h.add ho rfl hp h4⟩
  · right
    have e := wrE_put h.right hp
    rw [e]
    exact ⟨hp, h.put ho rfl hp⟩
/-- Rows of values that are no slices lie in another block than a row of two slices. -/
theorem RowsIn.aside {α : Type} {enc : α → List Value} {k n c B M : Nat} {A : Option Addr} {xs : List α} {w : World} {t : TypeId} {s1 s2 : Option Addr} {n1 c1 n2 c2 : Nat} (r : RowsIn w B A n c enc k xs)
    (hM : w.heap[M]? = some (.cells #[.slice s1 n1 c1, .slice s2 n2 c2] t (0, 0))) (henc : ∀ (x : α) (j : Nat) (u : Value), (enc x)[j]? = some u → ∀ (A : Option Addr) (n c : Nat), u ≠ Value.slice A n c) (cs' : Array Value) : RowsIn (w.setRow M cs') B A n c enc k xs :=
  ⟨r.len, r.le, r.top, fun i x hx => by
    obtain ⟨b, o, e, hb, hc⟩ := r.at_ i x hx
    refine ⟨b, o, e, hb, fun j u hu => ?_⟩
    have h1 := hc j u hu
    have hne : b ≠ M := by
      rintro rfl
      rw [row_cell hM] at h1
      match o + i * k + j, h1 with
      | 0, h1 => simp at h1; exact henc x j u hu _ _ _ h1.symm
      | 1, h1 => simp at h1; exact henc x j u hu _ _ _ h1.symm
      | m + 2, h1 => simp at h1
    exact (World.cell?_of_block (w := w) (setRow_other w M b cs' hne)).trans h1⟩
theorem str_no : ∀ (x : ByteArray) (j : Nat) (u : Value), ([Value.string x])[j]? = some u → ∀ (A : Option Addr) (n c : Nat), u ≠ Value.slice A n c := fun x j u h A n c e => by
  subst e
  match j, h with
  | 0, h => simp at h
  | j + 1, h => simp at h
theorem put_no : ∀ (x : PutD) (j : Nat) (u : Value), (x.cells)[j]? = some u → ∀ (A : Option Addr) (n c : Nat), u ≠ Value.slice A n c := fun x j u h A n c e => by
  subst e
  match j, h with
  | 0, h => simp [PutD.cells] at h
  | 1, h => simp [PutD.cells] at h
  | j + 2, h => simp [PutD.cells] at h
/-- The loop of ops.Play. -/
structure PwI (cs : List ByteArray) (ws : List PutD) (l : List OpD) (t : TypeId) (M : Nat) (w : World) (k : Nat) (e : Int) (wr : World) : Prop where
  st : (e = 0 ∧ dskE cs ws = 0 ∧ ∃ C W, PlI cs ws l k C W ∧ ∃ D q d D' q' d', wr.heap[M]? = some (.cells #[.slice D q d, .slice D' q' d'] t (0, 0)) ∧ RowsIn wr wr.heap.size D q d (fun z => [.string z]) 1 C ∧ RowsIn wr wr.heap.size D' q' d' PutD.cells 2 W) ∨ (e ≠ 0 ∧ plE cs ws l = e ∧ plX cs ws l = [] ∧ plY cs ws l = [])
  row : wr.heap[w.heap.size + 1]? = some (.cells zeroDsk t (0, 0))
  below : Below w.heap.size w wr
  lo : w.heap.size + 2 ≤ M
  hi : M < wr.heap.size
end Go.Proofs.Ytjmgocfoimhmjaa
