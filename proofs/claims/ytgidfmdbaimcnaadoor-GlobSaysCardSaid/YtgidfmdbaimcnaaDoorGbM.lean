/- Parts of a pattern in a row that a call makes: what is held of them, and one more (plain, over any program). -/
import Derived.Test.YtgidfmdbaimcnaaDoorGbT
import Derived.Test.YtgidfmdbaimcnaaDoorApp
namespace Go.Proofs.YtgidfmdbaimcnaaDoor
open Go.RowKit Go.Shelf Go.PlainAid

structure PtV where
  ru : Bool
  ng : Bool
  A : Option Addr
  n : Nat
  c : Nat
def PtV.cells (v : PtV) : List Value := [.bool v.ru, .bool v.ng, .slice v.A v.n v.c]
theorem PtV.len (v : PtV) : v.cells.length = 3 := rfl
structure PRep (enc : Int × Int → List Value) (w : World) (B : Nat) (v : PtV) (y : Pc) : Prop where
  run : v.ru = y.run
  neg : v.ng = y.neg
  row : RowsIn w B v.A v.n v.c enc 2 y.sp
def PReps (enc : Int × Int → List Value) (w : World) (B : Nat) (qs : List (PtV × Pc)) : Prop := ∀ q ∈ qs, PRep enc w B q.1 q.2
theorem rows_apart {α : Type} {w w' : World} {B B' n c k : Nat} {A : Option Addr} {enc : α → List Value} {xs : List α} (h : RowsIn w B A n c enc k xs) (hk : ∀ b, (∃ o, A = some ⟨b, o, none⟩) → b < B → b < B' ∧ w'.heap[b]? = w.heap[b]?) : RowsIn w' B' A n c enc k xs :=
  ⟨h.len, h.le, h.top, fun i x hx => by
    obtain ⟨b, o, e, hb, hc⟩ := h.at_ i x hx
    obtain ⟨h1, h2⟩ := hk b ⟨o, e⟩ hb
    exact ⟨b, o, e, h1, fun j u hu => by rw [World.cell?_of_block (w := w) (a := ⟨b, o + i * k + j, none⟩) h2]; exact hc j u hu⟩⟩
section
variable {enc : Int × Int → List Value} {w w' wr w3 w10 : World} {B B' B0 : Nat} {v : PtV} {y : Pc} {qs : List (PtV × Pc)} {k d : Nat} {D : Option Addr}
theorem PRep.below (h : PRep enc w B v y) (hb : Below B w w') : PRep enc w' B v y := ⟨h.run, h.neg, h.row.below hb⟩
theorem PRep.more (h : PRep enc w B v y) (hb : B ≤ B') : PRep enc w B' v y := ⟨h.run, h.neg, h.row.more hb⟩
theorem PReps.below (h : PReps enc w B qs) (hb : Below B w w') : PReps enc w' B qs := fun q hq => (h q hq).below hb
theorem PReps.more (h : PReps enc w B qs) (hb : B ≤ B') : PReps enc w B' qs := fun q hq => (h q hq).more hb
/-- The parts collected so far; their spans lie apart from the row itself. -/
structure PtI (enc : Int × Int → List Value) (B0 : Nat) (k : Nat) (D : Option Addr) (d : Nat) (qs : List (PtV × Pc)) (wr : World) : Prop where
  own : Owns wr B0 3 (.slice D k d) k ((qs.map (·.1)).flatMap PtV.cells)
  reps : PReps enc wr wr.heap.size qs
  apart : ∀ q ∈ qs, ∀ a, q.1.A = some a → B0 ≤ a.block ∧ a.block < wr.heap.size ∧ (Value.slice D k d).ownBlock ≠ some a.block
theorem PtI.nil (enc : Int × Int → List Value) (B0 : Nat) (wr : World) : PtI enc B0 0 none 0 [] wr := ⟨Owns.nil _ _ _, fun _ h => by simp at h, fun _ h => by simp at h⟩
/-- The same, where only blocks below the base, and new ones, turn. -/
theorem PtI.keep (h : PtI enc B0 k D d qs wr) (hs : wr.heap.size ≤ w3.heap.size) (hk : ∀ g, B0 ≤ g → g < wr.heap.size → w3.heap[g]? = wr.heap[g]?) : PtI enc B0 k D d qs w3 := by
  refine ⟨h.own.kept (fun g hg => hk g (h.own.lt g hg).1 (h.own.lt g hg).2) hs, fun q hq => ?_, fun q hq a ha => ?_⟩
  · have h1 := h.reps q hq
    refine ⟨h1.run, h1.neg, rows_apart h1.row fun b ⟨o, e⟩ hb => ⟨by omega, hk b (h.apart q hq _ e).1 hb⟩⟩
  · obtain ⟨h1, h2, h3⟩ := h.apart q hq a ha
    exact ⟨h1, by omega, h3⟩
theorem PtI.only {b : Nat} (h : PtI enc B0 k D d qs wr) (ho : OnlyB b wr w3) (hb : b < B0) : PtI enc B0 k D d qs w3 :=
  h.keep ho.size fun g h1 h2 => ho.2 g (by omega) h2
theorem PtI.alloc (h : PtI enc B0 k D d qs wr) (o : Obj) : PtI enc B0 k D d qs (wr.alloc o) := h.keep (by simp) fun g _ h2 => Below.heap_alloc _ _ _ h2
/-- One part more. -/
theorem PtI.step {D' : Option Addr} {d' : Nat} (h : PtI enc B0 k D d qs wr) (hs : wr.heap.size ≤ w3.heap.size) (hk : ∀ g, B0 ≤ g → g < wr.heap.size → w3.heap[g]? = wr.heap[g]?)
    (hv : PRep enc w3 w3.heap.size v y) (hva : ∀ a, v.A = some a → wr.heap.size ≤ a.block ∧ a.block < w3.heap.size) (hB : B0 ≤ wr.heap.size)
    (hown : Owns w10 B0 3 (.slice D' (k + 1) d') (k + 1) ((qs.map (·.1)).flatMap PtV.cells ++ v.cells)) (hl : Left w3 w10 B0 (Value.slice D k d).ownBlock)
    (hn : Value.ownBlock (.slice D' (k + 1) d') = (Value.slice D k d).ownBlock ∨ ∀ b, Value.ownBlock (.slice D' (k + 1) d') = some b → w3.heap.size ≤ b) :
    PtI enc B0 (k + 1) D' d' (qs ++ [(v, y)]) w10 := by
  have s5 := hl.size
  have hD : ∀ b, (Value.slice D k d).ownBlock = some b → B0 ≤ b ∧ b < wr.heap.size := h.own.lt
  have hold : ∀ b, b < w3.heap.size → (Value.slice D k d).ownBlock ≠ some b → w10.heap[b]? = w3.heap[b]? := fun b hb1 hb2 => hl.grown.block b hb1 (fun e => hb2 e.symm)
  refine ⟨?_, fun q hq => ?_, fun q hq a ha => ?_⟩
  · rw [List.map_append, List.flatMap_append]
    simpa using hown
  · rcases List.mem_append.1 hq with hq | hq
    · have h1 := h.reps q hq
      refine ⟨h1.run, h1.neg, rows_apart h1.row fun b ⟨o, e⟩ hb => ⟨by omega, ?_⟩⟩
      have h2 := h.apart q hq _ e
      rw [hold b (by omega) h2.2.2, hk b h2.1 hb]
    · rw [List.mem_singleton] at hq
      subst hq
      refine ⟨hv.run, hv.neg, rows_apart hv.row fun b ⟨o, e⟩ hb => ⟨by omega, hold b hb fun e2 => ?_⟩⟩
      have h3 := hva _ e
      have h4 := hD _ e2
      simp only at h3
      omega
  · rcases List.mem_append.1 hq with hq | hq
    · obtain ⟨h1, h2, h3⟩ := h.apart q hq a ha
      refine ⟨h1, by omega, fun e => ?_⟩
      rcases hn with hn | hn
      · rw [hn] at e; exact h3 e
      · have := hn _ e; omega
    · rw [List.mem_singleton] at hq
      subst hq
      have h3 := hva a ha
      refine ⟨by omega, by omega, fun e => ?_⟩
      rcases hn with hn | hn
      · rw [hn] at e; have := hD _ e; omega
      · have := hn _ e; omega
/-- The row of parts, said as elements. -/
theorem PtI.rows (h : PtI enc B0 k D d qs wr) : RowsIn wr wr.heap.size D k d PtV.cells 3 (qs.map (·.1)) := h.own.rows PtV.len (by decide)
end
/-- What a row of parts is. -/
structure PtsAt (enc : Int × Int → List Value) (w : World) (B : Nat) (D : Option Addr) (m d : Nat) (l : List Pc) : Prop where
  rep : ∃ qs : List (PtV × Pc), RowsIn w B D m d PtV.cells 3 (qs.map (·.1)) ∧ PReps enc w B qs ∧ qs.map (·.2) = l
theorem PtsAt.below {enc : Int × Int → List Value} {w w' : World} {B : Nat} {D : Option Addr} {m d : Nat} {l : List Pc} (h : PtsAt enc w B D m d l) (hb : Below B w w') : PtsAt enc w' B D m d l := by
  obtain ⟨qs, h1, h2, h3⟩ := h.rep
  exact ⟨qs, h1.below hb, h2.below hb, h3⟩
theorem PtsAt.more {enc : Int × Int → List Value} {w : World} {B B' : Nat} {D : Option Addr} {m d : Nat} {l : List Pc} (h : PtsAt enc w B D m d l) (hb : B ≤ B') : PtsAt enc w B' D m d l := by
  obtain ⟨qs, h1, h2, h3⟩ := h.rep
  exact ⟨qs, h1.more hb, h2.more hb, h3⟩
theorem PtsAt.len {enc : Int × Int → List Value} {w : World} {B : Nat} {D : Option Addr} {m d : Nat} {l : List Pc} (h : PtsAt enc w B D m d l) : l.length = m := by
  obtain ⟨qs, h1, _, h3⟩ := h.rep
  have := h1.len
  rw [← h3]; simpa using this
/-- One part, and where its cells lie. -/
theorem PtsAt.get {enc : Int × Int → List Value} {w : World} {B : Nat} {D : Option Addr} {m d : Nat} {l : List Pc} (h : PtsAt enc w B D m d l) {i : Nat} {p : Pc} (hp : l[i]? = some p) :
    ∃ b o A c, D = some ⟨b, o, none⟩ ∧ b < B ∧ w.cell? ⟨b, o + i * 3, none⟩ = some (.bool p.run) ∧ w.cell? ⟨b, o + i * 3 + 1, none⟩ = some (.bool p.neg) ∧ w.cell? ⟨b, o + i * 3 + 2, none⟩ = some (.slice A p.sp.length c) ∧ RowsIn w B A p.sp.length c enc 2 p.sp := by
  obtain ⟨qs, h1, h2, rfl⟩ := h.rep
  rw [List.getElem?_map] at hp
  cases hq : qs[i]? with
  | none => rw [hq] at hp; cases hp
  | some q =>
    rw [hq] at hp
    injection hp with hp
    subst hp
    have hr := h2 q (List.mem_of_getElem? hq)
    obtain ⟨b, o, e, hb, hc⟩ := h1.at_ i q.1 (by rw [List.getElem?_map, hq]; rfl)
    have hn : q.1.n = q.2.sp.length := hr.row.len.symm
    refine ⟨b, o, q.1.A, q.1.c, e, hb, ?_, ?_, ?_, ?_⟩
    · have := hc 0 _ rfl
      rw [hr.run] at this; simpa using this
    · have := hc 1 _ rfl
      rw [hr.neg] at this; simpa using this
    · have := hc 2 _ rfl
      rw [hn] at this; simpa using this
    · rw [← hn]; exact hr.row
end Go.Proofs.YtgidfmdbaimcnaaDoor
