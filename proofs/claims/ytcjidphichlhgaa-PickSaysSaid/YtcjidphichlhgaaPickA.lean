/- The queue behind its interface: how its methods are reached; a row of three ints each; the methods, walked. -/
import Derived.Test.YtcjidphichlhgaaPickP
import Derived.Test.YtcjidphichlhgaaApp
import Derived.BigRegion
import Derived.IntWalk
import Derived.Deep.DeepCutAuto
namespace Go.Proofs.Ytcjidphichlhgaa
open Go.RowKit Pk

theorem under_pq : Try.prog.underlying 32 = some (.pointer 28) := by kernel_rfl
theorem under_q : Try.prog.underlying 28 = some (.slice 30) := by kernel_rfl
theorem nilchk (t t' : TypeId) (a : Addr) (x y : String) : Builtin.ssaWrapNilChk_ #[t] t' #[.pointer (some a), strVal x, strVal y] = pure (.pointer (some a)) := rfl
def Meth (name : String) (f : FuncId) (b : Bool) : Prop := (Try.prog.info? 32).map (fun i => (i.methods.find? (fun m => m.name == name)).map (fun m => (m.path.toList, m.func))) = some (some ([], some (f, b)))
theorem meth_len : Meth "Len" 8 false := by unfold Meth; kernel_rfl
theorem meth_less : Meth "Less" 33 false := by unfold Meth; kernel_rfl
theorem meth_swap : Meth "Swap" 34 false := by unfold Meth; kernel_rfl
theorem meth_pop : Meth "Pop" 35 true := by unfold Meth; kernel_rfl
theorem run_meth {name : String} {f : FuncId} (hm : Meth name f false) (k Q : Nat) (A : Option Addr) (n c : Nat) (w : World) (h : w.cell? ⟨Q, 0, none⟩ = some (.slice A n c)) : (method (k + 1) 32 (.pointer (some ⟨Q, 0, none⟩)) name).run Try.prog w = .ok (f, .slice A n c) w := by
  obtain ⟨i, hi, hz⟩ := Option.map_eq_some_iff.1 hm
  obtain ⟨m, hm, hz2⟩ := Option.map_eq_some_iff.1 hz
  simp only [Prod.mk.injEq] at hz2
  obtain ⟨hp, hf⟩ := hz2
  have hp2 : m.path = #[] := Array.toList_eq_nil_iff.1 hp
  rw [method]
  simp [typeInfo, hi, hm, hp2, hf, follow, receiverAt, run_underlying under_pq, Place.get, nilchk, asAddr, loadVar, isAgg, run_underlying under_q, h]
theorem run_methp {name : String} {f : FuncId} (hm : Meth name f true) (k Q : Nat) (w : World) : (method (k + 1) 32 (.pointer (some ⟨Q, 0, none⟩)) name).run Try.prog w = .ok (f, .pointer (some ⟨Q, 0, none⟩)) w := by
  obtain ⟨i, hi, hz⟩ := Option.map_eq_some_iff.1 hm
  obtain ⟨m, hm, hz2⟩ := Option.map_eq_some_iff.1 hz
  simp only [Prod.mk.injEq] at hz2
  obtain ⟨hp, hf⟩ := hz2
  have hp2 : m.path = #[] := Array.toList_eq_nil_iff.1 hp
  rw [method]
  simp [typeInfo, hi, hm, hp2, hf, follow, receiverAt, run_underlying under_pq, Place.get]
/-- Out of w0 nothing old has turned but the blocks b and Q. -/
structure Gr2 (w0 : World) (b Q : Nat) (w : World) : Prop where
  os : w.os = w0.os
  tape : w.tape = w0.tape
  output : w.output = w0.output
  size : w0.heap.size ≤ w.heap.size
  block : ∀ k, k < w0.heap.size → k ≠ b → k ≠ Q → w.heap[k]? = w0.heap[k]?
theorem Gr2.refl (w : World) (b Q : Nat) : Gr2 w b Q w := ⟨rfl, rfl, rfl, Nat.le_refl _, fun _ _ _ _ => rfl⟩
theorem Gr2.trans {w0 w1 w2 : World} {b Q : Nat} (h : Gr2 w0 b Q w1) (k : Gr2 w1 b Q w2) : Gr2 w0 b Q w2 :=
  ⟨k.os.trans h.os, k.tape.trans h.tape, k.output.trans h.output, Nat.le_trans h.size k.size, fun i hi h1 h2 => (k.block i (Nat.lt_of_lt_of_le hi h.size) h1 h2).trans (h.block i hi h1 h2)⟩
theorem Gr2.below {w0 w w' : World} {b Q : Nat} (h : Gr2 w0 b Q w) (hb : Below w.heap.size w w') : Gr2 w0 b Q w' :=
  ⟨hb.os.trans h.os, hb.tape.trans h.tape, hb.output.trans h.output, Nat.le_trans h.size hb.size, fun i hi h1 h2 => (hb.block i (Nat.lt_of_lt_of_le hi h.size)).trans (h.block i hi h1 h2)⟩
theorem Gr2.set {w0 w : World} {b Q : Nat} (h : Gr2 w0 b Q w) (a : Addr) (ha : a.block = b ∨ a.block = Q) (v : Value) : Gr2 w0 b Q (w.setCell a v) :=
  ⟨h.os, h.tape, h.output, by simpa [World.setCell] using h.size, fun k hk h1 h2 => (Below.heap_setCell w a v k (fun e => by rcases ha with q | q <;> omega)).trans (h.block k hk h1 h2)⟩
theorem Gr2.drew {w0 w : World} {b Q : Nat} (h : Gr2 w0 b Q w) : Gr2 w0 b Q w.drew := ⟨h.os, h.tape, h.output, h.size, h.block⟩
/-- The queue: its box Q holds a slice of n; from o on in block b there stand N elements l. -/
structure QSt (w0 : World) (Q b o c N n : Nat) (l : List OneV) (w : World) : Prop where
  q : w.cell? ⟨Q, 0, none⟩ = some (.slice (some ⟨b, o, none⟩) n c)
  qf : w.frozen? ⟨Q, 0, none⟩ = false
  len : l.length = N
  c0 : ∀ i x, l[i]? = some x → w.cell? ⟨b, o + i * 3, none⟩ = some (.int .i64 x.at_)
  c1 : ∀ i x, l[i]? = some x → w.cell? ⟨b, o + i * 3 + 1, none⟩ = some (.int .i64 x.live)
  c2 : ∀ i x, l[i]? = some x → w.cell? ⟨b, o + i * 3 + 2, none⟩ = some (.int .i64 x.age)
  f0 : ∀ i, i < N → w.frozen? ⟨b, o + i * 3, none⟩ = false
  f1 : ∀ i, i < N → w.frozen? ⟨b, o + i * 3 + 1, none⟩ = false
  f2 : ∀ i, i < N → w.frozen? ⟨b, o + i * 3 + 2, none⟩ = false
  le : n ≤ N
  cap : N ≤ c
  cap2 : c ≤ maxLen
  gr : Gr2 w0 b Q w
  ltb : b < w0.heap.size
  ltQ : Q < w0.heap.size
  ne : b ≠ Q
section
variable {w0 w w' : World} {Q b o c N n : Nat} {l : List OneV}
theorem QSt.below (h : QSt w0 Q b o c N n l w) (hb : Below w.heap.size w w') : QSt w0 Q b o c N n l w' := by
  have hlt : b < w.heap.size := Nat.lt_of_lt_of_le h.ltb h.gr.size
  have hlQ : Q < w.heap.size := Nat.lt_of_lt_of_le h.ltQ h.gr.size
  exact ⟨(hb.cell (p := ⟨Q, _, none⟩) hlQ).trans h.q, (hb.frozen (p := ⟨Q, _, none⟩) hlQ).trans h.qf, h.len, fun i x hx => (hb.cell (p := ⟨b, _, none⟩) hlt).trans (h.c0 i x hx), fun i x hx => (hb.cell (p := ⟨b, _, none⟩) hlt).trans (h.c1 i x hx), fun i x hx => (hb.cell (p := ⟨b, _, none⟩) hlt).trans (h.c2 i x hx),
    fun i hi => (hb.frozen (p := ⟨b, _, none⟩) hlt).trans (h.f0 i hi), fun i hi => (hb.frozen (p := ⟨b, _, none⟩) hlt).trans (h.f1 i hi), fun i hi => (hb.frozen (p := ⟨b, _, none⟩) hlt).trans (h.f2 i hi), h.le, h.cap, h.cap2, h.gr.below hb, h.ltb, h.ltQ, h.ne⟩
theorem QSt.drew (h : QSt w0 Q b o c N n l w) : QSt w0 Q b o c N n l w.drew := ⟨h.q, h.qf, h.len, h.c0, h.c1, h.c2, h.f0, h.f1, h.f2, h.le, h.cap, h.cap2, h.gr.drew, h.ltb, h.ltQ, h.ne⟩
/-- One element stored. -/
def set3 (w : World) (b o j : Nat) (y : OneV) : World := ((w.setCell ⟨b, o + j * 3, none⟩ (.int .i64 y.at_)).setCell ⟨b, o + j * 3 + 1, none⟩ (.int .i64 y.live)).setCell ⟨b, o + j * 3 + 2, none⟩ (.int .i64 y.age)
theorem QSt.set (h : QSt w0 Q b o c N n l w) (j : Nat) (y : OneV) (hj : j < N) : QSt w0 Q b o c N n (l.set j y) (set3 w b o j y) := by
  have hl : j < l.length := by rw [h.len]; exact hj
  have hx := List.getElem?_eq_getElem hl
  have s0 : ((w.cell? ⟨b, o + j * 3, none⟩).isSome = true) := by rw [h.c0 j _ hx]; rfl
  have s1 : ((w.cell? ⟨b, o + j * 3 + 1, none⟩).isSome = true) := by rw [h.c1 j _ hx]; rfl
  have s2 : ((w.cell? ⟨b, o + j * 3 + 2, none⟩).isSome = true) := by rw [h.c2 j _ hx]; rfl
  have hother : ∀ a : Addr, (a.block ≠ b ∨ a.off < o + j * 3 ∨ o + j * 3 + 2 < a.off) → (set3 w b o j y).cell? a = w.cell? a := fun a ha => by
    unfold set3
    rw [World.cell?_setCell_other _ _ _ _ (fun e => by subst e; simp at ha; omega), World.cell?_setCell_other _ _ _ _ (fun e => by subst e; simp at ha; omega), World.cell?_setCell_other _ _ _ _ (fun e => by subst e; simp at ha; omega)]
  have hfz : ∀ a, (set3 w b o j y).frozen? a = w.frozen? a := fun a => by unfold set3; rw [World.frozen?_setCell, World.frozen?_setCell, World.frozen?_setCell]
  refine ⟨by rw [hother _ (.inl (fun e => h.ne e.symm))]; exact h.q, by rw [hfz]; exact h.qf, by rw [List.length_set]; exact h.len, fun i x hi => ?_, fun i x hi => ?_, fun i x hi => ?_, fun i hi => by rw [hfz]; exact h.f0 i hi, fun i hi => by rw [hfz]; exact h.f1 i hi, fun i hi => by rw [hfz]; exact h.f2 i hi, h.le, h.cap, h.cap2, ((h.gr.set _ (.inl rfl) _).set _ (.inl rfl) _).set _ (.inl rfl) _, h.ltb, h.ltQ, h.ne⟩
  · by_cases e : i = j
    · subst e
      rw [List.getElem?_set_self hl] at hi
      obtain rfl : y = x := by simpa using hi
      unfold set3
      rw [World.cell?_setCell_other _ _ _ _ (fun e => by injection e with _ e _; omega), World.cell?_setCell_other _ _ _ _ (fun e => by injection e with _ e _; omega)]
      exact World.cell?_setCell_same' _ _ _ s0
    · rw [List.getElem?_set_ne (fun q => e q.symm)] at hi
      rw [hother _ (.inr (by show o + i * 3 < _ ∨ _ < o + i * 3; omega))]
      exact h.c0 i x hi
  · by_cases e : i = j
    · subst e
      rw [List.getElem?_set_self hl] at hi
      obtain rfl : y = x := by simpa using hi
      unfold set3
      rw [World.cell?_setCell_other _ _ _ _ (fun e => by injection e with _ e _; omega)]
      exact World.cell?_setCell_same' _ _ _ (by rw [World.cell?_setCell_other _ _ _ _ (fun e => by injection e with _ e _; omega)]; exact s1)
    · rw [List.getElem?_set_ne (fun q => e q.symm)] at hi
      rw [hother _ (.inr (by show o + i * 3 + 1 < _ ∨ _ < o + i * 3 + 1; omega))]
      exact h.c1 i x hi
  · by_cases e : i = j
    · subst e
      rw [List.getElem?_set_self hl] at hi
      obtain rfl : y = x := by simpa using hi
      unfold set3
      exact World.cell?_setCell_same' _ _ _ (by rw [World.cell?_setCell_other _ _ _ _ (fun e => by injection e with _ e _; omega), World.cell?_setCell_other _ _ _ _ (fun e => by injection e with _ e _; omega)]; exact s2)
    · rw [List.getElem?_set_ne (fun q => e q.symm)] at hi
      rw [hother _ (.inr (by show o + i * 3 + 2 < _ ∨ _ < o + i * 3 + 2; omega))]
      exact h.c2 i x hi
end
end Go.Proofs.Ytcjidphichlhgaa
