/- A group of hands under a sync.WaitGroup, beside others that make memory: what one leans on, and the stops of Done, Add and Wait. No condition of ours. -/
import Derived.Test.YtebgcemglicjiaaLfJc
import Derived.Conc.WgGenN3
namespace Go.Proofs.Ytebgcemglicjiaa
open Go.Conc
open Go.ConcN (ShN WgLive)
open Go.ConcR (KK WgAt stA smA rd wr mk DC0)
/-- The group's block stays one, and memory only grows. -/
structure RM (ty : TypeId) (Wg : Nat) (w w₁ : World) : Prop where
  live : WgLive ty Wg w → WgLive ty Wg w₁
  size : w.heap.size ≤ w₁.heap.size
theorem RM.refl (ty : TypeId) (Wg : Nat) (w : World) : RM ty Wg w w := ⟨id, Nat.le_refl _⟩
theorem RM.trans {ty : TypeId} {Wg : Nat} {a b c : World} (h : RM ty Wg a b) (g : RM ty Wg b c) : RM ty Wg a c := ⟨g.live ∘ h.live, Nat.le_trans h.size g.size⟩
/-- What is known of the world all along. -/
def Fct (ty : TypeId) (Wg N : Nat) (w : World) : Prop := WgLive ty Wg w ∧ N ≤ w.heap.size
theorem fct_rely {ty : TypeId} {Wg N : Nat} {w w₁ : World} (h : Fct ty Wg N w) (r : RM ty Wg w w₁) : Fct ty Wg N w₁ := ⟨r.live h.1, Nat.le_trans h.2 r.size⟩
theorem Fct.cell0 {ty : TypeId} {Wg N : Nat} {w : World} (h : Fct ty Wg N w) : ∃ v, w.cell? ⟨Wg, 0, none⟩ = some v := Go.ConcN.Gen.WgLive.cell0 h.1
theorem Fct.cell1 {ty : TypeId} {Wg N : Nat} {w : World} (h : Fct ty Wg N w) : ∃ v, w.cell? ⟨Wg, 1, none⟩ = some v := Go.ConcN.Gen.WgLive.cell1 h.1
theorem Fct.set {ty : TypeId} {Wg N : Nat} {w : World} {st sm : Int} (h : Fct ty Wg N w) (a : Addr) (v : Value) (hw : WgAt ty Wg (w.setCell a v) st sm) : Fct ty Wg N (w.setCell a v) :=
  ⟨⟨_, _, hw⟩, by have := (aside_setCell w a v).size; have := h.2; omega⟩
/-- An entry that touches the group's cells only, and not plainly. -/
def EvM (Wg : Nat) (e : Event) : Prop := (∀ x, (MemAct.ofEvent e).touch? = some x → ShN Wg x.loc ∧ x.kind ≠ .plain) ∧ e.loc ≠ .mark .disable ∧ e.loc ≠ .mark .enable ∧ e.loc ≠ .mark (.release (stA Wg))
def DM (Wg : Nat) (w w' : World) (es : Array Event) : Prop := w' = w ∧ ∀ e ∈ es, EvM Wg e
theorem dm_none {Wg : Nat} {w : World} {es : Array Event} (h : ∀ e ∈ es, False) : DM Wg w w es := ⟨rfl, fun e he => (h e he).elim⟩
theorem evM_read {Wg : Nat} (a : Addr) (h : a.block = Wg) : EvM Wg ⟨.mark (.read a), false, true⟩ := by
  refine ⟨fun x hx => ?_, by simp, by simp, by simp⟩
  simp only [MemAct.ofEvent, MemAct.touch?, Option.some.injEq] at hx
  subst hx
  exact ⟨⟨a, rfl, h⟩, by simp⟩
theorem evM_write {Wg : Nat} (a : Addr) (h : a.block = Wg) : EvM Wg ⟨.mark (.write a), false, true⟩ := by
  refine ⟨fun x hx => ?_, by simp, by simp, by simp⟩
  simp only [MemAct.ofEvent, MemAct.touch?, Option.some.injEq] at hx
  subst hx
  exact ⟨⟨a, rfl, h⟩, by simp⟩
section
variable (P : Program) (ty : TypeId) (Wg : Nat)
/-! ### a hand's Done, from its end backwards -/
section
def LD4 (g : Goroutine) (w : World) : Prop :=
  g.status = .running ∧ mayWake P g = true ∧ (WgAt ty Wg w 0 0 → ∃ g', stepG P false g w = .go g' (w.setCell (smA Wg) (.int .u32 1)) (semEvents (smA Wg)) ∧ ∃ q, QuitsD P q 1 g')
def LD3 (g : Goroutine) (w : World) : Prop :=
  g.status = .running ∧ (WgAt ty Wg w 1 0 → ∃ g', stepG P false g w = .go g' (w.setCell (stA Wg) (.int .u64 0)) #[wr (stA Wg)] ∧ ∃ m, Goes P false (RM ty Wg) DC0 (LD4 P ty Wg) m g' (w.setCell (stA Wg) (.int .u64 0)))
def LD2 (g : Goroutine) (w : World) : Prop :=
  g.status = .running ∧ (WgAt ty Wg w 1 0 → ∃ g', stepG P false g w = .go g' w #[rd (stA Wg)] ∧ ∃ m, Goes P false (RM ty Wg) DC0 (LD3 P ty Wg) m g' w)
def LD1 (g : Goroutine) (w : World) : Prop :=
  g.status = .running ∧ ∀ v wt : Nat, wt ≤ 1 → v < 2147483647 → WgAt ty Wg w ((v + 1) * KK + wt) 0 →
    ∃ g', stepG P false g w = .go g' (w.setCell (stA Wg) (.int .u64 (v * KK + wt))) #[rd (stA Wg), wr (stA Wg)] ∧
      ((v = 0 ∧ wt = 1) → ∃ m, Goes P false (RM ty Wg) DC0 (LD2 P ty Wg) m g' (w.setCell (stA Wg) (.int .u64 (v * KK + wt)))) ∧ (¬ (v = 0 ∧ wt = 1) → ∃ q, QuitsD P q 1 g')
def LK1 (g : Goroutine) (w : World) : Prop :=
  g.status = .running ∧ ∃ g', stepG P false g w = .go g' w #[mk .disable] ∧ ∃ m, Goes P false (RM ty Wg) DC0 (LD1 P ty Wg) m g' w
def LR0 (g : Goroutine) (w : World) : Prop :=
  g.status = .running ∧ ∃ g', stepG P false g w = .go g' w #[mk (.releaseMerge (stA Wg))] ∧ ∃ m, Goes P false (RM ty Wg) DC0 (LK1 P ty Wg) m g' w
/-- Where a hand stands in Done: its stage, its fuel, its deafness. -/
inductive LSit : Nat → Nat → Nat → Goroutine → World → Prop
  | r0 {m : Nat} {g : Goroutine} {w : World} : Goes P false (RM ty Wg) DC0 (LR0 P ty Wg) m g w → LSit 7 m 0 g w
  | k1 {m : Nat} {g : Goroutine} {w : World} : Goes P false (RM ty Wg) DC0 (LK1 P ty Wg) m g w → LSit 6 m 0 g w
  | d1 {m : Nat} {g : Goroutine} {w : World} : Goes P false (RM ty Wg) DC0 (LD1 P ty Wg) m g w → LSit 5 m 1 g w
  | d2 {m : Nat} {g : Goroutine} {w : World} : Goes P false (RM ty Wg) DC0 (LD2 P ty Wg) m g w → LSit 4 m 1 g w
  | d3 {m : Nat} {g : Goroutine} {w : World} : Goes P false (RM ty Wg) DC0 (LD3 P ty Wg) m g w → LSit 3 m 1 g w
  | d4 {m : Nat} {g : Goroutine} {w : World} : Goes P false (RM ty Wg) DC0 (LD4 P ty Wg) m g w → LSit 2 m 1 g w
  | quit {q d : Nat} {g : Goroutine} {w : World} : QuitsD P q d g → LSit 1 q d g w
end
/-! ### the one that starts them -/
section
variable (Anch Tail : Goroutine → World → Prop)
def MAcq (g : Goroutine) (w : World) : Prop :=
  g.status = .running ∧ ∃ g', stepG P true g w = .go g' w #[mk (.acquire (stA Wg))] ∧ ∃ m, Goes P true (RM ty Wg) (DM Wg) Tail m g' w
def MKe (g : Goroutine) (w : World) : Prop :=
  g.status = .running ∧ ∃ g', stepG P true g w = .go g' w #[mk .enable] ∧ ∃ m, Goes P true (RM ty Wg) (DM Wg) (MAcq P ty Wg Tail) m g' w
def MW4 (g : Goroutine) (w : World) : Prop :=
  g.status = .running ∧ (WgAt ty Wg w 0 0 → ∃ g', stepG P true g w = .go g' w #[rd (stA Wg)] ∧ ∃ m, Goes P true (RM ty Wg) (DM Wg) (MKe P ty Wg Tail) m g' w)
def MW3 (g : Goroutine) (w : World) : Prop :=
  g.status = .running ∧ g.offers = none ∧
    ((∃ st, WgAt ty Wg w st 0) → stepG P true g w = .go { g with status := .blocked } w #[]) ∧
    (WgAt ty Wg w 0 1 → ∃ g', stepG P true g w = .go g' (w.setCell (smA Wg) (.int .u32 0)) (semEvents (smA Wg)) ∧ ∃ m, Goes P true (RM ty Wg) (DM Wg) (MW4 P ty Wg Tail) m g' (w.setCell (smA Wg) (.int .u32 0)))
def MW2 (vs : Nat) (g : Goroutine) (w : World) : Prop :=
  g.status = .running ∧ ∀ v : Nat, v < 2147483648 → WgAt ty Wg w (v * KK) 0 →
    (v = vs → ∃ g', stepG P true g w = .go g' (w.setCell (stA Wg) (.int .u64 (v * KK + 1))) #[rd (stA Wg), wr (stA Wg)] ∧ ∃ m, Goes P true (RM ty Wg) (DM Wg) (MW3 P ty Wg Tail) m g' (w.setCell (stA Wg) (.int .u64 (v * KK + 1)))) ∧
    (v ≠ vs → ∃ g', stepG P true g w = .go g' w #[rd (stA Wg)] ∧ ∃ m, Goes P true (RM ty Wg) (DM Wg) Anch m g' w)
def MW1 (g : Goroutine) (w : World) : Prop :=
  g.status = .running ∧ ∀ v : Nat, v < 2147483648 → WgAt ty Wg w (v * KK) 0 → ∃ g', stepG P true g w = .go g' w #[rd (stA Wg)] ∧
    (v = 0 → ∃ m, Goes P true (RM ty Wg) (DM Wg) (MKe P ty Wg Tail) m g' w) ∧ (v ≠ 0 → ∃ m, Goes P true (RM ty Wg) (DM Wg) (MW2 P ty Wg Anch Tail v) m g' w)
def MKd (g : Goroutine) (w : World) : Prop :=
  g.status = .running ∧ ∃ g', stepG P true g w = .go g' w #[mk .disable] ∧ ∃ m, Goes P true (RM ty Wg) (DM Wg) Anch m g' w
variable (Child : Goroutine → World → Prop)
def MGo (Next : Goroutine → World → Prop) (g : Goroutine) (w : World) : Prop :=
  g.status = .running ∧ ∃ g' child, stepG P true g w = .spawn g' child w #[] ∧ child.status = .running ∧ Child child w ∧ Next g' w
def MKeS (Next : Goroutine → World → Prop) (g : Goroutine) (w : World) : Prop :=
  g.status = .running ∧ ∃ g', stepG P true g w = .go g' w #[mk .enable] ∧ ∃ m, Goes P true (RM ty Wg) (DM Wg) (MGo P Child Next) m g' w
def MA1 (Next : Goroutine → World → Prop) (g : Goroutine) (w : World) : Prop :=
  g.status = .running ∧ ∀ v : Nat, v < 2147483647 → WgAt ty Wg w (v * KK) 0 →
    ∃ g', stepG P true g w = .go g' (w.setCell (stA Wg) (.int .u64 ((v + 1) * KK))) #[rd (stA Wg), wr (stA Wg)] ∧
      ∃ m, Goes P true (RM ty Wg) (DM Wg) (MKeS P ty Wg Child Next) m g' (w.setCell (stA Wg) (.int .u64 ((v + 1) * KK)))
def MKdS (Next : Goroutine → World → Prop) (g : Goroutine) (w : World) : Prop :=
  g.status = .running ∧ ∃ g', stepG P true g w = .go g' w #[mk .disable] ∧ ∃ m, Goes P true (RM ty Wg) (DM Wg) (MA1 P ty Wg Child Next) m g' w
/-- r hands are still to be started. -/
def Starts (Fin : Goroutine → World → Prop) : Nat → Goroutine → World → Prop
  | 0, g, w => Fin g w
  | r + 1, g, w => ∃ m, Goes P true (RM ty Wg) (DM Wg) (MKdS P ty Wg Child (Starts Fin r)) m g w
end
end
end Go.Proofs.Ytebgcemglicjiaa
